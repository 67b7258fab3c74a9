/- Parts of the proof. -/
import Derived.Test.YtjgeadoncanheaaGreatDoorQryDataN
import Derived.Test.YtjgeadoncanheaaGreatDoorBlkLinesN
import Derived.Test.YtjgeadoncanheaaGreatDoorPartBaseN
import Derived.Test.YtjgeadoncanheaaGreatDoorStyTellsN
import Derived.Test.YtjgeadoncanheaaGreatDoorQryActsN
import Derived.Maps.AppendAt
import Derived.Test.YtjgeadoncanheaaGreatDoorQryArgsN
import Derived.Test.YtjgeadoncanheaaGreatDoorDocEachN
import Derived.Test.YtjgeadoncanheaaGreatDoorLaidN
import Derived.Deep.RegionHeld3
import Derived.Deep.DrawnRows
set_option linter.unusedVariables false
set_option linter.unusedSimpArgs false
set_option maxHeartbeats 8000000
namespace Go.Proofs.Qw
open Go.RowKit Go.Proofs.YtjgeadoncanheaaGreatDoor
theorem zEC (s : St) : vN s 0 = false := by
 have h : ∀ x : Int, bits .and .i64 x 0 = 0 := fun x => by
  unfold bits
  simp
  rfl
 unfold vN vO;simp [h]
theorem zKh (s : St) (name : List UInt8) (h12 : jT name ≠ some 12) : zAp s name = (((yJ s name).2 && !(yJ s name).1) || vN s (bitN name)) := by
 unfold zAp yJ bitN;cases h : jT name with
 | none => simp [zEC]
 | some k =>
  simp only;rw [if_neg (fun e => h12 (by rw [h, e]))]
  by_cases h15 : 15 ≤ k
  ·rw [if_pos h15, if_pos h15]
   have : bitQ k = 0 := by
    unfold bitQ;rw [if_neg qC, if_neg qC, if_neg qC, if_neg qC]
   rw [this, zEC, Bool.or_false]
  ·rw [if_neg h15, if_neg h15]
   simp
end Go.Proofs.Qw
namespace Go.Proofs.YtjgeadoncanheaaGreatDoor
open Go.RowKit
open Go.Proofs.Qw
attribute [local go_sem] Oper.semAt_some
open _root_.Go.Lib renaming hid → zA
open _root_.Go.BigFrame renaming wpQuiet_want → zI, wpQuiet_skip → zJ
open _root_.Go.Act renaming put → zU
open _root_.Go.Proofs.Tryz renaming prog → zV
open _root_.Go.Proofs.YtjgeadoncanheaaGreatDoor renaming jF → zW
open _root_.Go.Proofs.Qw renaming kR → qK, vP → qL
set_option maxRecDepth 100000 in
theorem zGY (v : Value) (s : St) (name : ByteArray) (w : World) (S : Nat → Prop) (h : jE w S v s.lines) (he : EnvT w) (hs : Small s.lines) (hf : Fits s.lines) (hn : name.size ≤ 1000000) :
  Calls zV 9 #[stV v s, .string name] w fun e w' => e = .returned (.bool (zAp s name.data.toList)) ∧ Below w.heap.size w w' := by
 obtain ⟨W1, hW1, hB, hz, k0⟩ := vU w v s;have HB : Hid (∀ W, Below W1.heap.size W1 W → W.heap[w.heap.size]? = some (.cells #[v, .int .i64 s.anc.line, .int .i64 s.anc.col, .int .i64 s.foc.line, .int .i64 s.foc.col, .int .i64 s.on, .int .i64 s.off] 26)) := zA fun W hW => jG hW k0;have hs1 := hB.size;have H1 := zA hB;have hw0 : Below W1.heap.size W1 W1 := Below.refl _ _;have HV : Hid (∀ W, Below W1.heap.size W1 W → jE W S v s.lines ∧ EnvT W) := zA fun W hW => ⟨(h.below (jW _) hB).below (jW _) hW, (he.below hB).below hW⟩;have HFd : Hid (∀ W, Below W1.heap.size W1 W → Calls zV 15 #[.string name] W fun e w' => e = .returned (.tuple #[.int .i64 (kH name.data.toList), .bool (jT name.data.toList).isSome]) ∧ Below W.heap.size W w') := zA fun W hW => uQ name W (HV.out W hW).2 hn;have HLq : Hid (∀ W, Below W1.heap.size W1 W → Calls zV 21 #[stV v s, .string name] W fun e w' => e = .returned (.tuple #[.bool (yJ s name.data.toList).1, .bool (yJ s name.data.toList).2]) ∧ Below W.heap.size W w') := zA fun W hW => zGy v s name W S (HV.out W hW).1 (HV.out W hW).2 hs hf hn;have HKd : Hid (∀ W, Below W1.heap.size W1 W → Calls zV 26 #[stV v s] W fun e w' => e = .returned (.tuple #[.int .i64 ((kQ s).getD 0), .bool (kQ s).isSome]) ∧ Below W.heap.size W w') := zA fun W hW => zEq v s W S (HV.out W hW).1 (HV.out W hW).2 hs;have HM : Hid (∀ W, Below W1.heap.size W1 W → Calls zV 27 #[stV v s] W fun e w' => e = .returned (.bool (mayS s)) ∧ Below W.heap.size W w') := zA fun W hW => vQ v s W S (HV.out W hW).1 (HV.out W hW).2 hs;have HBt : Hid (∀ W, Below W1.heap.size W1 W → Calls zV 23 #[.string name] W fun e w' => e = .returned (.int .i64 (bitN name.data.toList)) ∧ Below W.heap.size W w') := zA fun W hW => zIq name W (HV.out W hW).2 hn;have HMx : Hid (∀ W, Below W1.heap.size W1 W → Calls zV 28 #[stV v s, .int .i64 (bitN name.data.toList)] W fun e w' => e = .returned (.bool (vN s (bitN name.data.toList))) ∧ Below W.heap.size W w') := zA fun W hW => zGQ v s _ W S (HV.out W hW).1 (HV.out W hW).2 hs hf;obtain ⟨bt, hbt⟩ : ∃ x, bitN name.data.toList = x := ⟨_, rfl⟩;obtain ⟨al, hal⟩ : ∃ x, (yJ s name.data.toList).1 = x := ⟨_, rfl⟩;obtain ⟨so, hso⟩ : ∃ x, (yJ s name.data.toList).2 = x := ⟨_, rfl⟩;obtain ⟨mx, hmx⟩ : ∃ x, vN s (bitN name.data.toList) = x := ⟨_, rfl⟩;obtain ⟨ma, hma⟩ : ∃ x, mayS s = x := ⟨_, rfl⟩;obtain ⟨kn, hkn⟩ : ∃ x, (kQ s).isSome = x := ⟨_, rfl⟩;obtain ⟨kg, hkg⟩ : ∃ x, (kQ s).getD 0 = x := ⟨_, rfl⟩;have HR1 : Hid (jT name.data.toList ≠ some 12 → zAp s name.data.toList = ((so && !al) || mx)) := zA fun h => by rw [zKh s _ h, hso, hal, hmx]
 have HR2 : Hid (jT name.data.toList = some 12 → zAp s name.data.toList = (ma && !kn)) := zA fun h => by
  unfold zAp;rw [h, ← hma, ← hkn]
  show (mayS s && (kQ s).isNone) = _
  cases kQ s <;> rfl
 rw [hmx, hbt] at HMx;rw [hbt] at HBt;rw [hal, hso] at HLq;rw [hkn, hkg] at HKd;rw [hma] at HM;obtain ⟨r, hr⟩ : ∃ r, jT name.data.toList = r := ⟨_, rfl⟩;have HFN := zA (show kH name.data.toList = r.getD 0 by unfold kH; rw [hr]);have HLT : Hid (∀ k, r = some k → k < 17) := zA fun k e => zAn (hr.trans e);rw [hr, HFN.out] at HFd;rw [hr] at HR1 HR2;obtain ⟨p0, f0⟩ := blk k0;obtain ⟨va, vc, rfl⟩ := h.slice;clear h he hs hf hB k0 hr hbt hal hso hmx hma hkn hkg
 by_cases h12 : r = some 12
 ·have HR := zA (HR2.out h12)
  have HFd : Hid (∀ W, Below W1.heap.size W1 W → Calls zV 15 #[.string name] W fun e w' => e = .returned (.tuple #[.int .i64 12, .bool true]) ∧ Below W.heap.size W w') := zA (by subst h12; exact HFd.out);rw [HR.out];clear h12 HR HR1 HR2 HLT HFN;cases ma <;> cases kn
  all_goals
   go_enter Tryz.func9, Tryz.ntmps9
   go_wp2_with (first
    | (go_at_call 21; refine (HLq.out _ hw0).mono ?_; rintro e w2 ⟨rfl, hb2⟩; obtain ⟨q0, g0⟩ := blk (HB.out _ hb2))
    | (go_at_call 15; refine (HFd.out _ hb2).mono ?_; rintro e w3 ⟨rfl, hst3⟩; have hb3 := zW hb2 hst3; obtain ⟨q1, g1⟩ := blk (HB.out _ hb3))
    | (go_at_call 26; refine (HKd.out _ hb3).mono ?_; rintro e w4 ⟨rfl, hst4⟩; have hb4 := zW hb3 hst4; obtain ⟨q2, g2⟩ := blk (HB.out _ hb4))
    | (go_at_call 27; refine (HM.out _ hb4).mono ?_; rintro e w5 ⟨rfl, hst5⟩; have hb5 := zW hb4 hst5))
   go_ret;exact ⟨rfl, H1.out.trans (hb5.mono hs1)⟩
 ·have HR := zA (HR1.out h12)
  rw [HR.out]
  have hcase : ∃ (k : Int) (ok : Bool), (ok = false ∨ (k == 12) = false) ∧ Hid (∀ W, Below W1.heap.size W1 W → Calls zV 15 #[.string name] W fun e w' => e = .returned (.tuple #[.int .i64 k, .bool ok]) ∧ Below W.heap.size W w') := by
   cases r with
   | none => exact ⟨0, false, .inl rfl, zA HFd.out⟩
   | some k => exact ⟨k, true, .inr (by have : k ≠ 12 := fun e => h12 (by rw [e]); simp; omega), zA HFd.out⟩
  obtain ⟨k, ok, hok, HFd⟩ := hcase;clear h12 HR HR1 HR2 HLT HFN p0 f0
  have hok2 : ok = false ∨ (ok = true ∧ (k == 12) = false) := by
   rcases hok with h | h
   ·exact .inl h
   ·cases ok
    ·exact .inl rfl
    ·exact .inr ⟨rfl, h⟩
  clear hok;obtain ⟨p0, f0⟩ := blk (HB.out _ hw0);rcases hok2 with rfl | ⟨rfl, d1⟩
  ·cases so <;> cases al
   ·go_enter Tryz.func9, Tryz.ntmps9
    go_wp2_with (first
     | (go_at_call 21; refine (HLq.out _ hw0).mono ?_; rintro e w2 ⟨rfl, hb2⟩; obtain ⟨q0, g0⟩ := blk (HB.out _ hb2))
     | (go_at_call 15; refine (HFd.out _ hb2).mono ?_; rintro e w3 ⟨rfl, hst3⟩; have hb3 := zW hb2 hst3; clear q0 g0))
    refine kX w3.heap.size zT zT ?_;refine zI zT (fun K hK => ?_);refine qK ?_ (fun W hW => ?_) (hK _ ?_);rotate_left 1
    ·skip
     go_simp
     try rfl
    clear hK;clear K;try simp only [zU, qI, qX, qY]
    refine zI zT (fun K hK => ?_);refine qK ?_ (fun W hW => ?_) (hK _ ?_);rotate_left 1
    ·skip
     go_simp
     try rfl
    clear hK;clear K;try simp only [zU, qI, qX, qY]
    refine zJ zT ?_;try simp only [zU, qI, qX, qY]
    refine zJ zT ?_;try simp only [zU, qI, qX, qY]
    refine zI zT (fun K hK => ?_);refine qK ?_ (fun W hW => ?_) (hK _ ?_);rotate_left 1
    ·skip
     go_simp
     try rfl
    clear hK;clear K;try simp only [zU, qI, qX, qY]
    refine zI zT (fun K hK => ?_);refine qK ?_ (fun W hW => ?_) (hK _ ?_);rotate_left 1
    ·skip
     go_simp
     try rfl
    clear hK;clear K;try simp only [zU, qI, qX, qY]
    refine zI zT (fun K hK => ?_);refine qK ?_ (fun W hW => ?_) (hK _ ?_);rotate_left 1
    ·obtain ⟨p0, f0⟩ := blk (HB.out _ (zW hb3 hW))
     go_simp
     try rfl
    clear hK;clear K;try simp only [zU, qI, qX, qY]
    refine zI zT (fun K hK => ?_);refine qK ?_ (fun W hW => ?_) (hK _ ?_);rotate_left 1
    ·skip
     go_simp
     try rfl
    clear hK;clear K;try simp only [zU, qI, qX, qY]
    refine zI zT (fun K hK => ?_);refine qL (f := ?_) (args := ?_) ?_ (fun W hW => ?_) (fun W hW => ?_) (hK _ ?_);rotate_left 3
    ·go_simp
     constructor <;> rfl
    ·refine (HBt.out _ (zW hb3 hW)).mono ?_
     rintro e W2 ⟨rfl, hbW⟩;refine ⟨?_, zW hW hbW⟩
     rfl
    clear hK;clear K;try simp only [zU, qI, qX, qY]
    refine zI zT (fun K hK => ?_);refine qL (f := ?_) (args := ?_) ?_ (fun W hW => ?_) (fun W hW => ?_) (hK _ ?_);rotate_left 3
    ·go_simp
     constructor <;> rfl
    ·refine (HMx.out _ (zW hb3 hW)).mono ?_
     rintro e W2 ⟨rfl, hbW⟩;refine ⟨?_, zW hW hbW⟩
     rfl
    clear hK;clear K;try simp only [zU, qI, qX, qY]
    refine zI zT (fun K hK => ?_);refine qK ?_ (fun W hW => ?_) (hK _ ?_);rotate_left 1
    ·skip
     go_simp
     try rfl
    clear hK;clear K;try simp only [zU, qI, qX, qY]
    refine zI zT (fun K hK => ?_);refine qK ?_ (fun W hW => ?_) (hK _ ?_);rotate_left 1
    ·skip
     go_simp
     try rfl
    clear hK;clear K;try simp only [zU, qI, qX, qY]
    refine wpQuiet_nil (fun X6 hstX6 => ?_);go_wp2_with fail;go_ret;refine ⟨?_, H1.out.trans ((zW hb3 hstX6).mono hs1)⟩
    first | rfl | simp
   ·go_enter Tryz.func9, Tryz.ntmps9
    go_wp2_with (first
     | (go_at_call 21; refine (HLq.out _ hw0).mono ?_; rintro e w2 ⟨rfl, hb2⟩; obtain ⟨q0, g0⟩ := blk (HB.out _ hb2))
     | (go_at_call 15; refine (HFd.out _ hb2).mono ?_; rintro e w3 ⟨rfl, hst3⟩; have hb3 := zW hb2 hst3; clear q0 g0))
    refine kX w3.heap.size zT zT ?_;refine zI zT (fun K hK => ?_);refine qK ?_ (fun W hW => ?_) (hK _ ?_);rotate_left 1
    ·skip
     go_simp
     try rfl
    clear hK;clear K;try simp only [zU, qI, qX, qY]
    refine zI zT (fun K hK => ?_);refine qK ?_ (fun W hW => ?_) (hK _ ?_);rotate_left 1
    ·skip
     go_simp
     try rfl
    clear hK;clear K;try simp only [zU, qI, qX, qY]
    refine zJ zT ?_;try simp only [zU, qI, qX, qY]
    refine zJ zT ?_;try simp only [zU, qI, qX, qY]
    refine zI zT (fun K hK => ?_);refine qK ?_ (fun W hW => ?_) (hK _ ?_);rotate_left 1
    ·skip
     go_simp
     try rfl
    clear hK;clear K;try simp only [zU, qI, qX, qY]
    refine zI zT (fun K hK => ?_);refine qK ?_ (fun W hW => ?_) (hK _ ?_);rotate_left 1
    ·skip
     go_simp
     try rfl
    clear hK;clear K;try simp only [zU, qI, qX, qY]
    refine zI zT (fun K hK => ?_);refine qK ?_ (fun W hW => ?_) (hK _ ?_);rotate_left 1
    ·obtain ⟨p0, f0⟩ := blk (HB.out _ (zW hb3 hW))
     go_simp
     try rfl
    clear hK;clear K;try simp only [zU, qI, qX, qY]
    refine zI zT (fun K hK => ?_);refine qK ?_ (fun W hW => ?_) (hK _ ?_);rotate_left 1
    ·skip
     go_simp
     try rfl
    clear hK;clear K;try simp only [zU, qI, qX, qY]
    refine zI zT (fun K hK => ?_);refine qL (f := ?_) (args := ?_) ?_ (fun W hW => ?_) (fun W hW => ?_) (hK _ ?_);rotate_left 3
    ·go_simp
     constructor <;> rfl
    ·refine (HBt.out _ (zW hb3 hW)).mono ?_
     rintro e W2 ⟨rfl, hbW⟩;refine ⟨?_, zW hW hbW⟩
     rfl
    clear hK;clear K;try simp only [zU, qI, qX, qY]
    refine zI zT (fun K hK => ?_);refine qL (f := ?_) (args := ?_) ?_ (fun W hW => ?_) (fun W hW => ?_) (hK _ ?_);rotate_left 3
    ·go_simp
     constructor <;> rfl
    ·refine (HMx.out _ (zW hb3 hW)).mono ?_
     rintro e W2 ⟨rfl, hbW⟩;refine ⟨?_, zW hW hbW⟩
     rfl
    clear hK;clear K;try simp only [zU, qI, qX, qY]
    refine zI zT (fun K hK => ?_);refine qK ?_ (fun W hW => ?_) (hK _ ?_);rotate_left 1
    ·skip
     go_simp
     try rfl
    clear hK;clear K;try simp only [zU, qI, qX, qY]
    refine zI zT (fun K hK => ?_);refine qK ?_ (fun W hW => ?_) (hK _ ?_);rotate_left 1
    ·skip
     go_simp
     try rfl
    clear hK;clear K;try simp only [zU, qI, qX, qY]
    refine wpQuiet_nil (fun X6 hstX6 => ?_);go_wp2_with fail;go_ret;refine ⟨?_, H1.out.trans ((zW hb3 hstX6).mono hs1)⟩
    first | rfl | simp
   ·go_enter Tryz.func9, Tryz.ntmps9
    go_wp2_with (first
     | (go_at_call 21; refine (HLq.out _ hw0).mono ?_; rintro e w2 ⟨rfl, hb2⟩; obtain ⟨q0, g0⟩ := blk (HB.out _ hb2))
     | (go_at_call 15; refine (HFd.out _ hb2).mono ?_; rintro e w3 ⟨rfl, hst3⟩; have hb3 := zW hb2 hst3; clear q0 g0))
    refine kX w3.heap.size zT zT ?_;refine zI zT (fun K hK => ?_);refine qK ?_ (fun W hW => ?_) (hK _ ?_);rotate_left 1
    ·skip
     go_simp
     try rfl
    clear hK;clear K;try simp only [zU, qI, qX, qY]
    refine zI zT (fun K hK => ?_);refine qK ?_ (fun W hW => ?_) (hK _ ?_);rotate_left 1
    ·skip
     go_simp
     try rfl
    clear hK;clear K;try simp only [zU, qI, qX, qY]
    refine zI zT (fun K hK => ?_);refine qK ?_ (fun W hW => ?_) (hK _ ?_);rotate_left 1
    ·skip
     go_simp
     try rfl
    clear hK;clear K;try simp only [zU, qI, qX, qY]
    refine zI zT (fun K hK => ?_);refine qK ?_ (fun W hW => ?_) (hK _ ?_);rotate_left 1
    ·skip
     go_simp
     try rfl
    clear hK;clear K;try simp only [zU, qI, qX, qY]
    refine zI zT (fun K hK => ?_);refine qK ?_ (fun W hW => ?_) (hK _ ?_);rotate_left 1
    ·skip
     go_simp
     try rfl
    clear hK;clear K;try simp only [zU, qI, qX, qY]
    refine zI zT (fun K hK => ?_);refine qK ?_ (fun W hW => ?_) (hK _ ?_);rotate_left 1
    ·skip
     go_simp
     try rfl
    clear hK;clear K;try simp only [zU, qI, qX, qY]
    refine zJ zT ?_;try simp only [zU, qI, qX, qY]
    refine zJ zT ?_;try simp only [zU, qI, qX, qY]
    refine zJ zT ?_;try simp only [zU, qI, qX, qY]
    refine zJ zT ?_;try simp only [zU, qI, qX, qY]
    refine zI zT (fun K hK => ?_);refine qK ?_ (fun W hW => ?_) (hK _ ?_);rotate_left 1
    ·skip
     go_simp
     try rfl
    clear hK;clear K;try simp only [zU, qI, qX, qY]
    refine zI zT (fun K hK => ?_);refine qK ?_ (fun W hW => ?_) (hK _ ?_);rotate_left 1
    ·skip
     go_simp
     try rfl
    clear hK;clear K;try simp only [zU, qI, qX, qY]
    refine wpQuiet_nil (fun X6 hstX6 => ?_);go_wp2_with fail;go_ret;refine ⟨?_, H1.out.trans ((zW hb3 hstX6).mono hs1)⟩
    first | rfl | simp
   ·go_enter Tryz.func9, Tryz.ntmps9
    go_wp2_with (first
     | (go_at_call 21; refine (HLq.out _ hw0).mono ?_; rintro e w2 ⟨rfl, hb2⟩; obtain ⟨q0, g0⟩ := blk (HB.out _ hb2))
     | (go_at_call 15; refine (HFd.out _ hb2).mono ?_; rintro e w3 ⟨rfl, hst3⟩; have hb3 := zW hb2 hst3; clear q0 g0))
    refine kX w3.heap.size zT zT ?_;refine zI zT (fun K hK => ?_);refine qK ?_ (fun W hW => ?_) (hK _ ?_);rotate_left 1
    ·skip
     go_simp
     try rfl
    clear hK;clear K;try simp only [zU, qI, qX, qY]
    refine zI zT (fun K hK => ?_);refine qK ?_ (fun W hW => ?_) (hK _ ?_);rotate_left 1
    ·skip
     go_simp
     try rfl
    clear hK;clear K;try simp only [zU, qI, qX, qY]
    refine zI zT (fun K hK => ?_);refine qK ?_ (fun W hW => ?_) (hK _ ?_);rotate_left 1
    ·skip
     go_simp
     try rfl
    clear hK;clear K;try simp only [zU, qI, qX, qY]
    refine zI zT (fun K hK => ?_);refine qK ?_ (fun W hW => ?_) (hK _ ?_);rotate_left 1
    ·skip
     go_simp
     try rfl
    clear hK;clear K;try simp only [zU, qI, qX, qY]
    refine zI zT (fun K hK => ?_);refine qK ?_ (fun W hW => ?_) (hK _ ?_);rotate_left 1
    ·skip
     go_simp
     try rfl
    clear hK;clear K;try simp only [zU, qI, qX, qY]
    refine zI zT (fun K hK => ?_);refine qK ?_ (fun W hW => ?_) (hK _ ?_);rotate_left 1
    ·skip
     go_simp
     try rfl
    clear hK;clear K;try simp only [zU, qI, qX, qY]
    refine zI zT (fun K hK => ?_);refine qK ?_ (fun W hW => ?_) (hK _ ?_);rotate_left 1
    ·obtain ⟨p0, f0⟩ := blk (HB.out _ (zW hb3 hW))
     go_simp
     try rfl
    clear hK;clear K;try simp only [zU, qI, qX, qY]
    refine zI zT (fun K hK => ?_);refine qK ?_ (fun W hW => ?_) (hK _ ?_);rotate_left 1
    ·skip
     go_simp
     try rfl
    clear hK;clear K;try simp only [zU, qI, qX, qY]
    refine zI zT (fun K hK => ?_);refine qL (f := ?_) (args := ?_) ?_ (fun W hW => ?_) (fun W hW => ?_) (hK _ ?_);rotate_left 3
    ·go_simp
     constructor <;> rfl
    ·refine (HBt.out _ (zW hb3 hW)).mono ?_
     rintro e W2 ⟨rfl, hbW⟩;refine ⟨?_, zW hW hbW⟩
     rfl
    clear hK;clear K;try simp only [zU, qI, qX, qY]
    refine zI zT (fun K hK => ?_);refine qL (f := ?_) (args := ?_) ?_ (fun W hW => ?_) (fun W hW => ?_) (hK _ ?_);rotate_left 3
    ·go_simp
     constructor <;> rfl
    ·refine (HMx.out _ (zW hb3 hW)).mono ?_
     rintro e W2 ⟨rfl, hbW⟩;refine ⟨?_, zW hW hbW⟩
     rfl
    clear hK;clear K;try simp only [zU, qI, qX, qY]
    refine zI zT (fun K hK => ?_);refine qK ?_ (fun W hW => ?_) (hK _ ?_);rotate_left 1
    ·skip
     go_simp
     try rfl
    clear hK;clear K;try simp only [zU, qI, qX, qY]
    refine zI zT (fun K hK => ?_);refine qK ?_ (fun W hW => ?_) (hK _ ?_);rotate_left 1
    ·skip
     go_simp
     try rfl
    clear hK;clear K;try simp only [zU, qI, qX, qY]
    refine wpQuiet_nil (fun X6 hstX6 => ?_);go_wp2_with fail;go_ret;refine ⟨?_, H1.out.trans ((zW hb3 hstX6).mono hs1)⟩
    first | rfl | simp
  ·cases so <;> cases al
   ·go_enter Tryz.func9, Tryz.ntmps9
    go_wp2_with (first
     | (go_at_call 21; refine (HLq.out _ hw0).mono ?_; rintro e w2 ⟨rfl, hb2⟩; obtain ⟨q0, g0⟩ := blk (HB.out _ hb2))
     | (go_at_call 15; refine (HFd.out _ hb2).mono ?_; rintro e w3 ⟨rfl, hst3⟩; have hb3 := zW hb2 hst3; clear q0 g0))
    refine kX w3.heap.size zT zT ?_;refine zI zT (fun K hK => ?_);refine qK ?_ (fun W hW => ?_) (hK _ ?_);rotate_left 1
    ·skip
     go_simp
     try rfl
    clear hK;clear K;try simp only [zU, qI, qX, qY]
    refine zI zT (fun K hK => ?_);refine qK ?_ (fun W hW => ?_) (hK _ ?_);rotate_left 1
    ·skip
     go_simp
     try rfl
    clear hK;clear K;try simp only [zU, qI, qX, qY]
    refine zJ zT ?_;try simp only [zU, qI, qX, qY]
    refine zJ zT ?_;try simp only [zU, qI, qX, qY]
    refine zI zT (fun K hK => ?_);refine qK ?_ (fun W hW => ?_) (hK _ ?_);rotate_left 1
    ·skip
     go_simp
     try rfl
    clear hK;clear K;try simp only [zU, qI, qX, qY]
    refine zI zT (fun K hK => ?_);refine qK ?_ (fun W hW => ?_) (hK _ ?_);rotate_left 1
    ·skip
     go_simp
     try rfl
    clear hK;clear K;try simp only [zU, qI, qX, qY]
    refine zI zT (fun K hK => ?_);refine qK ?_ (fun W hW => ?_) (hK _ ?_);rotate_left 1
    ·obtain ⟨p0, f0⟩ := blk (HB.out _ (zW hb3 hW))
     go_simp
     try rfl
    clear hK;clear K;try simp only [zU, qI, qX, qY]
    refine zI zT (fun K hK => ?_);refine qK ?_ (fun W hW => ?_) (hK _ ?_);rotate_left 1
    ·skip
     go_simp
     try rfl
    clear hK;clear K;try simp only [zU, qI, qX, qY]
    refine zI zT (fun K hK => ?_);refine qL (f := ?_) (args := ?_) ?_ (fun W hW => ?_) (fun W hW => ?_) (hK _ ?_);rotate_left 3
    ·go_simp
     constructor <;> rfl
    ·refine (HBt.out _ (zW hb3 hW)).mono ?_
     rintro e W2 ⟨rfl, hbW⟩;refine ⟨?_, zW hW hbW⟩
     rfl
    clear hK;clear K;try simp only [zU, qI, qX, qY]
    refine zI zT (fun K hK => ?_);refine qL (f := ?_) (args := ?_) ?_ (fun W hW => ?_) (fun W hW => ?_) (hK _ ?_);rotate_left 3
    ·go_simp
     constructor <;> rfl
    ·refine (HMx.out _ (zW hb3 hW)).mono ?_
     rintro e W2 ⟨rfl, hbW⟩;refine ⟨?_, zW hW hbW⟩
     rfl
    clear hK;clear K;try simp only [zU, qI, qX, qY]
    refine zI zT (fun K hK => ?_);refine qK ?_ (fun W hW => ?_) (hK _ ?_);rotate_left 1
    ·skip
     go_simp
     try rfl
    clear hK;clear K;try simp only [zU, qI, qX, qY]
    refine zI zT (fun K hK => ?_);refine qK ?_ (fun W hW => ?_) (hK _ ?_);rotate_left 1
    ·skip
     go_simp
     try rfl
    clear hK;clear K;try simp only [zU, qI, qX, qY]
    refine wpQuiet_nil (fun X6 hstX6 => ?_);go_wp2_with fail;go_ret;refine ⟨?_, H1.out.trans ((zW hb3 hstX6).mono hs1)⟩
    first | rfl | simp
   ·go_enter Tryz.func9, Tryz.ntmps9
    go_wp2_with (first
     | (go_at_call 21; refine (HLq.out _ hw0).mono ?_; rintro e w2 ⟨rfl, hb2⟩; obtain ⟨q0, g0⟩ := blk (HB.out _ hb2))
     | (go_at_call 15; refine (HFd.out _ hb2).mono ?_; rintro e w3 ⟨rfl, hst3⟩; have hb3 := zW hb2 hst3; clear q0 g0))
    refine kX w3.heap.size zT zT ?_;refine zI zT (fun K hK => ?_);refine qK ?_ (fun W hW => ?_) (hK _ ?_);rotate_left 1
    ·skip
     go_simp
     try rfl
    clear hK;clear K;try simp only [zU, qI, qX, qY]
    refine zI zT (fun K hK => ?_);refine qK ?_ (fun W hW => ?_) (hK _ ?_);rotate_left 1
    ·skip
     go_simp
     try rfl
    clear hK;clear K;try simp only [zU, qI, qX, qY]
    refine zJ zT ?_;try simp only [zU, qI, qX, qY]
    refine zJ zT ?_;try simp only [zU, qI, qX, qY]
    refine zI zT (fun K hK => ?_);refine qK ?_ (fun W hW => ?_) (hK _ ?_);rotate_left 1
    ·skip
     go_simp
     try rfl
    clear hK;clear K;try simp only [zU, qI, qX, qY]
    refine zI zT (fun K hK => ?_);refine qK ?_ (fun W hW => ?_) (hK _ ?_);rotate_left 1
    ·skip
     go_simp
     try rfl
    clear hK;clear K;try simp only [zU, qI, qX, qY]
    refine zI zT (fun K hK => ?_);refine qK ?_ (fun W hW => ?_) (hK _ ?_);rotate_left 1
    ·obtain ⟨p0, f0⟩ := blk (HB.out _ (zW hb3 hW))
     go_simp
     try rfl
    clear hK;clear K;try simp only [zU, qI, qX, qY]
    refine zI zT (fun K hK => ?_);refine qK ?_ (fun W hW => ?_) (hK _ ?_);rotate_left 1
    ·skip
     go_simp
     try rfl
    clear hK;clear K;try simp only [zU, qI, qX, qY]
    refine zI zT (fun K hK => ?_);refine qL (f := ?_) (args := ?_) ?_ (fun W hW => ?_) (fun W hW => ?_) (hK _ ?_);rotate_left 3
    ·go_simp
     constructor <;> rfl
    ·refine (HBt.out _ (zW hb3 hW)).mono ?_
     rintro e W2 ⟨rfl, hbW⟩;refine ⟨?_, zW hW hbW⟩
     rfl
    clear hK;clear K;try simp only [zU, qI, qX, qY]
    refine zI zT (fun K hK => ?_);refine qL (f := ?_) (args := ?_) ?_ (fun W hW => ?_) (fun W hW => ?_) (hK _ ?_);rotate_left 3
    ·go_simp
     constructor <;> rfl
    ·refine (HMx.out _ (zW hb3 hW)).mono ?_
     rintro e W2 ⟨rfl, hbW⟩;refine ⟨?_, zW hW hbW⟩
     rfl
    clear hK;clear K;try simp only [zU, qI, qX, qY]
    refine zI zT (fun K hK => ?_);refine qK ?_ (fun W hW => ?_) (hK _ ?_);rotate_left 1
    ·skip
     go_simp
     try rfl
    clear hK;clear K;try simp only [zU, qI, qX, qY]
    refine zI zT (fun K hK => ?_);refine qK ?_ (fun W hW => ?_) (hK _ ?_);rotate_left 1
    ·skip
     go_simp
     try rfl
    clear hK;clear K;try simp only [zU, qI, qX, qY]
    refine wpQuiet_nil (fun X6 hstX6 => ?_);go_wp2_with fail;go_ret;refine ⟨?_, H1.out.trans ((zW hb3 hstX6).mono hs1)⟩
    first | rfl | simp
   ·go_enter Tryz.func9, Tryz.ntmps9
    go_wp2_with (first
     | (go_at_call 21; refine (HLq.out _ hw0).mono ?_; rintro e w2 ⟨rfl, hb2⟩; obtain ⟨q0, g0⟩ := blk (HB.out _ hb2))
     | (go_at_call 15; refine (HFd.out _ hb2).mono ?_; rintro e w3 ⟨rfl, hst3⟩; have hb3 := zW hb2 hst3; clear q0 g0))
    refine kX w3.heap.size zT zT ?_;refine zI zT (fun K hK => ?_);refine qK ?_ (fun W hW => ?_) (hK _ ?_);rotate_left 1
    ·skip
     go_simp
     try rfl
    clear hK;clear K;try simp only [zU, qI, qX, qY]
    refine zI zT (fun K hK => ?_);refine qK ?_ (fun W hW => ?_) (hK _ ?_);rotate_left 1
    ·skip
     go_simp
     try rfl
    clear hK;clear K;try simp only [zU, qI, qX, qY]
    refine zI zT (fun K hK => ?_);refine qK ?_ (fun W hW => ?_) (hK _ ?_);rotate_left 1
    ·skip
     go_simp
     try rfl
    clear hK;clear K;try simp only [zU, qI, qX, qY]
    refine zI zT (fun K hK => ?_);refine qK ?_ (fun W hW => ?_) (hK _ ?_);rotate_left 1
    ·skip
     go_simp
     try rfl
    clear hK;clear K;try simp only [zU, qI, qX, qY]
    refine zI zT (fun K hK => ?_);refine qK ?_ (fun W hW => ?_) (hK _ ?_);rotate_left 1
    ·skip
     go_simp
     try rfl
    clear hK;clear K;try simp only [zU, qI, qX, qY]
    refine zI zT (fun K hK => ?_);refine qK ?_ (fun W hW => ?_) (hK _ ?_);rotate_left 1
    ·skip
     go_simp
     try rfl
    clear hK;clear K;try simp only [zU, qI, qX, qY]
    refine zJ zT ?_;try simp only [zU, qI, qX, qY]
    refine zJ zT ?_;try simp only [zU, qI, qX, qY]
    refine zJ zT ?_;try simp only [zU, qI, qX, qY]
    refine zJ zT ?_;try simp only [zU, qI, qX, qY]
    refine zI zT (fun K hK => ?_);refine qK ?_ (fun W hW => ?_) (hK _ ?_);rotate_left 1
    ·skip
     go_simp
     try rfl
    clear hK;clear K;try simp only [zU, qI, qX, qY]
    refine zI zT (fun K hK => ?_);refine qK ?_ (fun W hW => ?_) (hK _ ?_);rotate_left 1
    ·skip
     go_simp
     try rfl
    clear hK;clear K;try simp only [zU, qI, qX, qY]
    refine wpQuiet_nil (fun X6 hstX6 => ?_);go_wp2_with fail;go_ret;refine ⟨?_, H1.out.trans ((zW hb3 hstX6).mono hs1)⟩
    first | rfl | simp
   ·go_enter Tryz.func9, Tryz.ntmps9
    go_wp2_with (first
     | (go_at_call 21; refine (HLq.out _ hw0).mono ?_; rintro e w2 ⟨rfl, hb2⟩; obtain ⟨q0, g0⟩ := blk (HB.out _ hb2))
     | (go_at_call 15; refine (HFd.out _ hb2).mono ?_; rintro e w3 ⟨rfl, hst3⟩; have hb3 := zW hb2 hst3; clear q0 g0))
    refine kX w3.heap.size zT zT ?_;refine zI zT (fun K hK => ?_);refine qK ?_ (fun W hW => ?_) (hK _ ?_);rotate_left 1
    ·skip
     go_simp
     try rfl
    clear hK;clear K;try simp only [zU, qI, qX, qY]
    refine zI zT (fun K hK => ?_);refine qK ?_ (fun W hW => ?_) (hK _ ?_);rotate_left 1
    ·skip
     go_simp
     try rfl
    clear hK;clear K;try simp only [zU, qI, qX, qY]
    refine zI zT (fun K hK => ?_);refine qK ?_ (fun W hW => ?_) (hK _ ?_);rotate_left 1
    ·skip
     go_simp
     try rfl
    clear hK;clear K;try simp only [zU, qI, qX, qY]
    refine zI zT (fun K hK => ?_);refine qK ?_ (fun W hW => ?_) (hK _ ?_);rotate_left 1
    ·skip
     go_simp
     try rfl
    clear hK;clear K;try simp only [zU, qI, qX, qY]
    refine zI zT (fun K hK => ?_);refine qK ?_ (fun W hW => ?_) (hK _ ?_);rotate_left 1
    ·skip
     go_simp
     try rfl
    clear hK;clear K;try simp only [zU, qI, qX, qY]
    refine zI zT (fun K hK => ?_);refine qK ?_ (fun W hW => ?_) (hK _ ?_);rotate_left 1
    ·skip
     go_simp
     try rfl
    clear hK;clear K;try simp only [zU, qI, qX, qY]
    refine zI zT (fun K hK => ?_);refine qK ?_ (fun W hW => ?_) (hK _ ?_);rotate_left 1
    ·obtain ⟨p0, f0⟩ := blk (HB.out _ (zW hb3 hW))
     go_simp
     try rfl
    clear hK;clear K;try simp only [zU, qI, qX, qY]
    refine zI zT (fun K hK => ?_);refine qK ?_ (fun W hW => ?_) (hK _ ?_);rotate_left 1
    ·skip
     go_simp
     try rfl
    clear hK;clear K;try simp only [zU, qI, qX, qY]
    refine zI zT (fun K hK => ?_);refine qL (f := ?_) (args := ?_) ?_ (fun W hW => ?_) (fun W hW => ?_) (hK _ ?_);rotate_left 3
    ·go_simp
     constructor <;> rfl
    ·refine (HBt.out _ (zW hb3 hW)).mono ?_
     rintro e W2 ⟨rfl, hbW⟩;refine ⟨?_, zW hW hbW⟩
     rfl
    clear hK;clear K;try simp only [zU, qI, qX, qY]
    refine zI zT (fun K hK => ?_);refine qL (f := ?_) (args := ?_) ?_ (fun W hW => ?_) (fun W hW => ?_) (hK _ ?_);rotate_left 3
    ·go_simp
     constructor <;> rfl
    ·refine (HMx.out _ (zW hb3 hW)).mono ?_
     rintro e W2 ⟨rfl, hbW⟩;refine ⟨?_, zW hW hbW⟩
     rfl
    clear hK;clear K;try simp only [zU, qI, qX, qY]
    refine zI zT (fun K hK => ?_);refine qK ?_ (fun W hW => ?_) (hK _ ?_);rotate_left 1
    ·skip
     go_simp
     try rfl
    clear hK;clear K;try simp only [zU, qI, qX, qY]
    refine zI zT (fun K hK => ?_);refine qK ?_ (fun W hW => ?_) (hK _ ?_);rotate_left 1
    ·skip
     go_simp
     try rfl
    clear hK;clear K;try simp only [zU, qI, qX, qY]
    refine wpQuiet_nil (fun X6 hstX6 => ?_);go_wp2_with fail;go_ret;refine ⟨?_, H1.out.trans ((zW hb3 hstX6).mono hs1)⟩
    first | rfl | simp
end Go.Proofs.YtjgeadoncanheaaGreatDoor
namespace Go.Proofs.Qw
open Go.RowKit Go.Proofs.YtjgeadoncanheaaGreatDoor
def exL (b c : Int) (h k : List UInt8) : Doc := [⟨0, [], 0, [⟨97, b, h⟩, ⟨98, c, k⟩]⟩]
def exA : St := ⟨exL 0 1 [] [], ⟨0, 0⟩, ⟨0, 2⟩, 0, 0⟩
def exB : St := ⟨exL 1 1 [] [], ⟨0, 0⟩, ⟨0, 2⟩, 0, 0⟩
end Go.Proofs.Qw
namespace Go.Proofs.YtjgeadoncanheaaGreatDoor
open Go.RowKit
open Go.Proofs.Qw
theorem on1f {w : World} {B : Nat} {cs : Array Value} {t : TypeId} (h : w.heap[B]? = some (.cells cs t)) : ∀ X k, (w.alloc X).frozen? ⟨B, k, none⟩ = false := fun X _ => xF (jH _ X h)
theorem yZ (b c : Int) {h k : List UInt8} (h1 : h.length ≤ 10) (h2 : k.length ≤ 10) : Small (exL b c h k) ∧ Fits (exL b c h k) := by
 refine ⟨⟨by simp [jU, exL], by simp [exL], fun l hl x hx => ?_⟩, by simp [exL], fun l hl => ?_⟩
 ·simp only [exL, List.mem_singleton] at hl
  subst hl;simp only [List.mem_cons, List.mem_nil_iff, or_false] at hx;rcases hx with rfl | rfl
  ·show h.length ≤ _; omega
  ·show k.length ≤ _; omega
 ·simp only [exL, List.mem_singleton] at hl
  subst hl
  simp
theorem zLl {w : World} {S : Nat → Prop} {v : Value} {b c : Int} {h k : List UInt8} (hv : DocR true w S v (exL b c h k)) :
  ∃ p o n la lc p2 o2 n2, v = .slice (some ⟨p, o, none⟩) 1 n ∧ p < w.heap.size ∧ p2 < w.heap.size ∧ w.cell? ⟨p, o + 1, none⟩ = some (.slice la 0 lc) ∧ w.cell? ⟨p, o + 3, none⟩ = some (.slice (some ⟨p2, o2, none⟩) 2 n2) ∧ w.cell? ⟨p2, o2 + 1, none⟩ = some (.int .i64 b) ∧ w.cell? ⟨p2, o2 + 3 + 1, none⟩ = some (.int .i64 c) ∧ n ≤ maxLen ∧ n2 ≤ maxLen ∧ 1 ≤ n ∧ 2 ≤ n2 := by
 obtain ⟨p, o, n, la, lc, ca, cc, rfl, hc, hm, hA, _, hC, _⟩ := uU hv (i := 0) (l := ⟨0, [], 0, [⟨97, b, h⟩, ⟨98, c, k⟩]⟩) rfl;rw [Nat.zero_mul, Nat.add_zero] at hA;obtain ⟨hlt, _, a1, _, a3, _, _⟩ := hA;obtain ⟨a, n2, he, hn2, hm2, hx⟩ := uB (SliceR.read (fun _ _ h => h) hC);cases he;obtain ⟨p2, o2, rfl, hz2, _, c1, _⟩ := hx 0 _ rfl;obtain ⟨p3, o3, he3, _, _, d1, _⟩ := hx 1 _ rfl;cases he3;rw [Nat.zero_mul, Nat.add_zero] at c1;rw [Nat.one_mul] at d1;exact ⟨p, o, n, la, lc, p2, o2, _, rfl, hlt, hz2, a1, a3, c1, d1, hm, hm2, hc, hn2⟩
end Go.Proofs.YtjgeadoncanheaaGreatDoor
namespace Go.Proofs.Qw
open Go.RowKit Go.Proofs.YtjgeadoncanheaaGreatDoor
def exH : St := ⟨[⟨0, [], 2, [⟨97, 0, []⟩, ⟨98, 1, []⟩]⟩], ⟨0, 0⟩, ⟨0, 2⟩, 0, 0⟩
set_option maxRecDepth 10000 in
theorem zKo : runQ exA [66, 111, 108, 100] [] = (exB, 0) := by decide +kernel
theorem zLu : runQ exA [120] [] = (noS, 2) := by decide +kernel
theorem zKL : runQ exA [102, 111, 114, 109, 97, 116, 66, 108, 111, 99, 107] [60, 72, 50, 62] = (exH, 0) := by decide +kernel
theorem zLk : runQ exA [102, 111, 114, 109, 97, 116, 66, 108, 111, 99, 107] [108, 105] = (noS, 1) := by decide +kernel
theorem zFv : kH [66, 79, 76, 68] = 5 ∧ (jT [66, 79, 76, 68]).isSome = true := by decide +kernel
theorem zKn : kW [105, 110, 115, 101, 114, 116, 84, 101, 120, 116] [120] = ([120], true) := by decide +kernel
theorem zJE : zAp exA [98, 111, 108, 100] = true := by decide +kernel
theorem zJD : zAb exA [102, 111, 114, 109, 97, 116, 66, 108, 111, 99, 107] = [112] := by decide +kernel
end Go.Proofs.Qw
namespace Go.Proofs.YtjgeadoncanheaaGreatDoor
open Go.RowKit
open Go.Proofs.Qw
open _root_.Go.Lib renaming hid → zA
open _root_.Nat renaming le_trans → zD
open _root_.Go.RowKit.Below renaming refl → zE
open _root_.Go.Proofs.Tryz renaming prog → zV
open _root_.Go.Proofs.YtjgeadoncanheaaGreatDoor renaming jF → zW, jG → zX
open _root_.Go.Proofs.Qw renaming jW → zZ
set_option maxRecDepth 100000 in
theorem zId (w : World) (he : EnvT w) : Calls zV 6 #[] w fun e w' => e = .returned (.bool true) ∧ Below w.heap.size w w' := by
 obtain ⟨W1, hW1⟩ : ∃ W1, ((w.alloc (.cells #[.int .i32 97, .int .i64 0, .string ⟨#[]⟩, .int .i32 98, .int .i64 1, .string ⟨#[]⟩] 43)).alloc (.cells #[.int .i64 0, .slice none 0 0, .int .i64 0, .slice (some ⟨w.heap.size, 0, none⟩) 2 2] 47)).alloc (.cells #[.slice (some ⟨w.heap.size + 1, 0, none⟩) 1 1, .int .i64 0, .int .i64 0, .int .i64 0, .int .i64 2, .int .i64 0, .int .i64 0] 26) = W1 := ⟨_, rfl⟩;have hB : Below w.heap.size w W1 := hW1 ▸ zBq (zE _ _) _ _ _;have hz : w.heap.size + 3 = W1.heap.size := by rw [← hW1]; simp
 have k0 : W1.heap[w.heap.size]? = some (.cells #[.int .i32 97, .int .i64 0, .string ⟨#[]⟩, .int .i32 98, .int .i64 1, .string ⟨#[]⟩] 43) := hW1 ▸ jH _ _ (jH _ _ (jD _ _ rfl));have k1 : W1.heap[w.heap.size + 1]? = some (.cells #[.int .i64 0, .slice none 0 0, .int .i64 0, .slice (some ⟨w.heap.size, 0, none⟩) 2 2] 47) := hW1 ▸ jH _ _ (jD _ _ qE);have k2 : W1.heap[w.heap.size + 1 + 1]? = some (.cells #[.slice (some ⟨w.heap.size + 1, 0, none⟩) 1 1, .int .i64 0, .int .i64 0, .int .i64 0, .int .i64 2, .int .i64 0, .int .i64 0] 26) := hW1 ▸ jD _ _ qE
 have hd0 : jE W1 (fun b => b < w.heap.size + 2) (.slice (some ⟨w.heap.size + 1, 0, none⟩) 1 1) (exL 0 1 [] []) := by
  refine ⟨_, 1, rfl, Nat.le_refl _, by decide, .inr ⟨w.heap.size + 1, 0, rfl, (by show w.heap.size + 1 < w.heap.size + 2; omega), by omega, fun h => kN, fun i x hx => ?_⟩⟩
  match i, hx with
  | 0, hx =>
   cases hx
   exact ⟨[.int .i64 0, .slice none 0 0, .int .i64 0, .slice (some ⟨w.heap.size, 0, none⟩) 2 2], rfl, ⟨.slice none 0 0, _, rfl, SliceR.nil _ _ _ _ _ _, zBg (enc := xA) (fun _ => rfl) [⟨97, 0, []⟩, ⟨98, 1, []⟩] k0 (by show w.heap.size < w.heap.size + 2; omega) qV⟩, fun j u hu => by
    rw [jR k1, Nat.zero_mul, Nat.zero_add]
    simpa using hu⟩
 have hs1 := hB.size;have HE : Hid (∀ W, Below w.heap.size w W → EnvT W) := zA fun W hW => he.below hW;have HB1 := zA hB;have HD1 := zA hd0;have HK1 := zA k2;have HS1 : Hid (w.heap.size + 3 ≤ W1.heap.size) := zA qC;have HW1 := zA hW1;clear he hd0 k0 k1 k2 hB hW1;go_enter Tryz.func6, Tryz.ntmps6;go_wp2_with fail;rw [HW1.out]
 have HFd : Hid (Calls zV 15 #[.string ⟨#[66, 79, 76, 68]⟩] W1 fun e w' => e = .returned (.tuple #[.int .i64 5, .bool true]) ∧ Below W1.heap.size W1 w') := zA (by
  have := uQ ⟨#[66, 79, 76, 68]⟩ W1 (HE.out _ HB1.out) qV;rw [show (⟨#[66, 79, 76, 68]⟩ : ByteArray).data.toList = [66, 79, 76, 68] from rfl, zFv.1, zFv.2] at this;exact this)
 refine HFd.out.mono ?_;rintro e m0 ⟨rfl, hst0⟩;have HB0 := zA (zW HB1.out hst0);have HK0 := zA (zX hst0 HK1.out);have HD0 := zA (HD1.out.below (zZ _) hst0);have HS0 := zA (zD HS1.out hst0.size);clear hst0;obtain ⟨q1, g1⟩ := blk HK0.out;have r1 := on1 HK0.out;have u1 := on1f HK0.out;have e1 : ¬ m0.heap.size = w.heap.size + 1 + 1 := by have := HS0.out; omega
 go_wp2_with fail
 have HC1 : Hid (Calls zV 20 #[.agg #[.slice (some ⟨w.heap.size + 1, 0, none⟩) 1 1, .int .i64 0, .int .i64 0, .int .i64 0, .int .i64 2, .int .i64 0, .int .i64 0], .string ⟨#[66, 111, 108, 100]⟩, .string ⟨#[]⟩] m0 (StSaid (exB, 0) m0)) := zA (by
  have := zBR (.slice (some ⟨w.heap.size + 1, 0, none⟩) 1 1) exA ⟨#[66, 111, 108, 100]⟩ ⟨#[]⟩ m0 _ HD0.out (HE.out _ HB0.out) (yZ _ _ qV qV).1 (yZ _ _ qV qV).2 qV qV;rw [show (⟨#[66, 111, 108, 100]⟩ : ByteArray).data.toList = [66, 111, 108, 100] from rfl, show (⟨#[]⟩ : ByteArray).data.toList = [] from rfl, zKo] at this;exact this)
 with_reducible refine HC1.out.mono ?_
 intro e w1 hsaid;obtain ⟨v1, he1, hv1, hst1⟩ := hsaid;obtain ⟨x1, y1, hve1⟩ := hv1.slice;rw [show (exB.lines).length = 1 from rfl] at hve1;subst hve1;have he1 : e = .returned (.tuple #[.agg #[.slice x1 1 y1, .int .i64 0, .int .i64 0, .int .i64 0, .int .i64 2, .int .i64 0, .int .i64 0], .int .i64 0]) := he1;subst he1;have HB10 : Hid (Below w.heap.size w w1) := zA (zW HB0.out hst1);have HK10 := zA (zX hst1 HK0.out);have HD10 := zA (HD0.out.below (zZ _) hst1);have HS10 := zA (zD HS0.out hst1.size);have HR1_10 := zA hv1;clear hv1 hst1 q1 g1 r1 u1 e1;go_upto_region 4 with fail
 obtain ⟨m1, hm1⟩ : ∃ m1, w1.alloc (.cells #[.slice x1 1 y1, .int .i64 0, .int .i64 0, .int .i64 0, .int .i64 2, .int .i64 0, .int .i64 0] 26) = m1 := ⟨_, rfl⟩;rw [hm1];have hbm1 : Below w1.heap.size w1 m1 := hm1 ▸ yG (zE _ _) _;have HB1 := zA (zW HB10.out hbm1);have HK1 := zA (zX hbm1 HK10.out);have HD1 := zA (HD10.out.below (zZ _) hbm1);have HS1 := zA (zD HS10.out hbm1.size);have HR1_1 := zA (HR1_10.out.below hbm1);have HN1_1 : Hid (m1.heap[w1.heap.size]? = some (.cells #[.slice x1 1 y1, .int .i64 0, .int .i64 0, .int .i64 0, .int .i64 2, .int .i64 0, .int .i64 0] 26)) := zA (hm1 ▸ jD _ _ rfl);clear hbm1 hm1;obtain ⟨q2, g2⟩ := blk HK1.out;have r2 := on1 HK1.out;have u2 := on1f HK1.out;have e2 : ¬ m1.heap.size = w.heap.size + 1 + 1 := by have := HS1.out; omega
 go_wp2_with fail
 have HC2 : Hid (Calls zV 20 #[.agg #[.slice (some ⟨w.heap.size + 1, 0, none⟩) 1 1, .int .i64 0, .int .i64 0, .int .i64 0, .int .i64 2, .int .i64 0, .int .i64 0], .string ⟨#[120]⟩, .string ⟨#[]⟩] m1 (StSaid (noS, 2) m1)) := zA (by
  have := zBR (.slice (some ⟨w.heap.size + 1, 0, none⟩) 1 1) exA ⟨#[120]⟩ ⟨#[]⟩ m1 _ HD1.out (HE.out _ HB1.out) (yZ _ _ qV qV).1 (yZ _ _ qV qV).2 qV qV;rw [show (⟨#[120]⟩ : ByteArray).data.toList = [120] from rfl, show (⟨#[]⟩ : ByteArray).data.toList = [] from rfl, zLu] at this;exact this)
 with_reducible refine HC2.out.mono ?_
 intro e w2 hsaid;obtain ⟨v2, he2, hv2, hst2⟩ := hsaid;obtain ⟨x2, y2, hve2⟩ := hv2.slice;rw [show (noS.lines).length = 0 from rfl] at hve2;subst hve2;have he2 : e = .returned (.tuple #[.agg #[.slice x2 0 y2, .int .i64 0, .int .i64 0, .int .i64 0, .int .i64 0, .int .i64 0, .int .i64 0], .int .i64 2]) := he2;subst he2;have HB20 : Hid (Below w.heap.size w w2) := zA (zW HB1.out hst2);have HK20 := zA (zX hst2 HK1.out);have HD20 := zA (HD1.out.below (zZ _) hst2);have HS20 := zA (zD HS1.out hst2.size);have HR1_20 := zA (HR1_1.out.below hst2);have HN1_20 := zA (zX hst2 HN1_1.out);clear hv2 hst2 q2 g2 r2 u2 e2;go_upto_region 5 with fail
 obtain ⟨m2, hm2⟩ : ∃ m2, w2.alloc (.cells #[.slice x2 0 y2, .int .i64 0, .int .i64 0, .int .i64 0, .int .i64 0, .int .i64 0, .int .i64 0] 26) = m2 := ⟨_, rfl⟩;rw [hm2];have hbm2 : Below w2.heap.size w2 m2 := hm2 ▸ yG (zE _ _) _;have HB2 := zA (zW HB20.out hbm2);have HK2 := zA (zX hbm2 HK20.out);have HD2 := zA (HD20.out.below (zZ _) hbm2);have HS2 := zA (zD HS20.out hbm2.size);have HR1_2 := zA (HR1_20.out.below hbm2);have HN1_2 := zA (zX hbm2 HN1_20.out);clear hbm2 hm2;obtain ⟨q3, g3⟩ := blk HK2.out;have r3 := on1 HK2.out;have u3 := on1f HK2.out;have e3 : ¬ m2.heap.size = w.heap.size + 1 + 1 := by have := HS2.out; omega
 go_wp2_with fail
 have HC3 : Hid (Calls zV 20 #[.agg #[.slice (some ⟨w.heap.size + 1, 0, none⟩) 1 1, .int .i64 0, .int .i64 0, .int .i64 0, .int .i64 2, .int .i64 0, .int .i64 0], .string ⟨#[102, 111, 114, 109, 97, 116, 66, 108, 111, 99, 107]⟩, .string ⟨#[60, 72, 50, 62]⟩] m2 (StSaid (exH, 0) m2)) := zA (by
  have := zBR (.slice (some ⟨w.heap.size + 1, 0, none⟩) 1 1) exA ⟨#[102, 111, 114, 109, 97, 116, 66, 108, 111, 99, 107]⟩ ⟨#[60, 72, 50, 62]⟩ m2 _ HD2.out (HE.out _ HB2.out) (yZ _ _ qV qV).1 (yZ _ _ qV qV).2 qV qV;rw [show (⟨#[102, 111, 114, 109, 97, 116, 66, 108, 111, 99, 107]⟩ : ByteArray).data.toList = [102, 111, 114, 109, 97, 116, 66, 108, 111, 99, 107] from rfl, show (⟨#[60, 72, 50, 62]⟩ : ByteArray).data.toList = [60, 72, 50, 62] from rfl, zKL] at this;exact this)
 with_reducible refine HC3.out.mono ?_
 intro e w3 hsaid;obtain ⟨v3, he3, hv3, hst3⟩ := hsaid;obtain ⟨x3, y3, hve3⟩ := hv3.slice;rw [show (exH.lines).length = 1 from rfl] at hve3;subst hve3;have he3 : e = .returned (.tuple #[.agg #[.slice x3 1 y3, .int .i64 0, .int .i64 0, .int .i64 0, .int .i64 2, .int .i64 0, .int .i64 0], .int .i64 0]) := he3;subst he3;have HB30 : Hid (Below w.heap.size w w3) := zA (zW HB2.out hst3);have HK30 := zA (zX hst3 HK2.out);have HD30 := zA (HD2.out.below (zZ _) hst3);have HS30 := zA (zD HS2.out hst3.size);have HR1_30 := zA (HR1_2.out.below hst3);have HN1_30 := zA (zX hst3 HN1_2.out);have HR3_30 := zA hv3;clear hv3 hst3 q3 g3 r3 u3 e3;go_upto_region 6 with fail
 obtain ⟨m3, hm3⟩ : ∃ m3, w3.alloc (.cells #[.slice x3 1 y3, .int .i64 0, .int .i64 0, .int .i64 0, .int .i64 2, .int .i64 0, .int .i64 0] 26) = m3 := ⟨_, rfl⟩;rw [hm3];have hbm3 : Below w3.heap.size w3 m3 := hm3 ▸ yG (zE _ _) _;have HB3 := zA (zW HB30.out hbm3);have HK3 := zA (zX hbm3 HK30.out);have HD3 := zA (HD30.out.below (zZ _) hbm3);have HS3 := zA (zD HS30.out hbm3.size);have HR1_3 := zA (HR1_30.out.below hbm3);have HN1_3 := zA (zX hbm3 HN1_30.out);have HR3_3 := zA (HR3_30.out.below hbm3);have HN3_3 : Hid (m3.heap[w3.heap.size]? = some (.cells #[.slice x3 1 y3, .int .i64 0, .int .i64 0, .int .i64 0, .int .i64 2, .int .i64 0, .int .i64 0] 26)) := zA (hm3 ▸ jD _ _ rfl);clear hbm3 hm3;obtain ⟨q4, g4⟩ := blk HK3.out;have r4 := on1 HK3.out;have u4 := on1f HK3.out;have e4 : ¬ m3.heap.size = w.heap.size + 1 + 1 := by have := HS3.out; omega
 go_wp2_with fail
 have HC4 : Hid (Calls zV 20 #[.agg #[.slice (some ⟨w.heap.size + 1, 0, none⟩) 1 1, .int .i64 0, .int .i64 0, .int .i64 0, .int .i64 2, .int .i64 0, .int .i64 0], .string ⟨#[102, 111, 114, 109, 97, 116, 66, 108, 111, 99, 107]⟩, .string ⟨#[108, 105]⟩] m3 (StSaid (noS, 1) m3)) := zA (by
  have := zBR (.slice (some ⟨w.heap.size + 1, 0, none⟩) 1 1) exA ⟨#[102, 111, 114, 109, 97, 116, 66, 108, 111, 99, 107]⟩ ⟨#[108, 105]⟩ m3 _ HD3.out (HE.out _ HB3.out) (yZ _ _ qV qV).1 (yZ _ _ qV qV).2 qV qV;rw [show (⟨#[102, 111, 114, 109, 97, 116, 66, 108, 111, 99, 107]⟩ : ByteArray).data.toList = [102, 111, 114, 109, 97, 116, 66, 108, 111, 99, 107] from rfl, show (⟨#[108, 105]⟩ : ByteArray).data.toList = [108, 105] from rfl, zLk] at this;exact this)
 with_reducible refine HC4.out.mono ?_
 intro e w4 hsaid;obtain ⟨v4, he4, hv4, hst4⟩ := hsaid;obtain ⟨x4, y4, hve4⟩ := hv4.slice;rw [show (noS.lines).length = 0 from rfl] at hve4;subst hve4;have he4 : e = .returned (.tuple #[.agg #[.slice x4 0 y4, .int .i64 0, .int .i64 0, .int .i64 0, .int .i64 0, .int .i64 0, .int .i64 0], .int .i64 1]) := he4;subst he4;have HB40 : Hid (Below w.heap.size w w4) := zA (zW HB3.out hst4);have HK40 := zA (zX hst4 HK3.out);have HD40 := zA (HD3.out.below (zZ _) hst4);have HS40 := zA (zD HS3.out hst4.size);have HR1_40 := zA (HR1_3.out.below hst4);have HN1_40 := zA (zX hst4 HN1_3.out);have HR3_40 := zA (HR3_3.out.below hst4);have HN3_40 := zA (zX hst4 HN3_3.out);clear hv4 hst4 q4 g4 r4 u4 e4;go_upto_region 7 with fail
 obtain ⟨m4, hm4⟩ : ∃ m4, w4.alloc (.cells #[.slice x4 0 y4, .int .i64 0, .int .i64 0, .int .i64 0, .int .i64 0, .int .i64 0, .int .i64 0] 26) = m4 := ⟨_, rfl⟩;rw [hm4];have hbm4 : Below w4.heap.size w4 m4 := hm4 ▸ yG (zE _ _) _;have HB4 := zA (zW HB40.out hbm4);have HK4 := zA (zX hbm4 HK40.out);have HD4 := zA (HD40.out.below (zZ _) hbm4);have HS4 := zA (zD HS40.out hbm4.size);have HR1_4 := zA (HR1_40.out.below hbm4);have HN1_4 := zA (zX hbm4 HN1_40.out);have HR3_4 := zA (HR3_40.out.below hbm4);have HN3_4 := zA (zX hbm4 HN3_40.out);clear hbm4 hm4
 have HDt : Hid (Calls zV 17 #[.string ⟨#[105, 110, 115, 101, 114, 116, 84, 101, 120, 116]⟩, .string ⟨#[120]⟩] m4 fun e w' => e = .returned (.tuple #[.string ⟨#[120]⟩, .bool true]) ∧ Below m4.heap.size m4 w') := zA (by
  have := zEf ⟨#[105, 110, 115, 101, 114, 116, 84, 101, 120, 116]⟩ ⟨#[120]⟩ m4 (HE.out _ HB4.out) qV;rw [show (⟨#[105, 110, 115, 101, 114, 116, 84, 101, 120, 116]⟩ : ByteArray).data.toList = [105, 110, 115, 101, 114, 116, 84, 101, 120, 116] from rfl, show (⟨#[120]⟩ : ByteArray).data.toList = [120] from rfl, zKn] at this;exact this)
 have HIn : Hid (∀ W, Below m4.heap.size m4 W → Calls zV 9 #[.agg #[.slice (some ⟨w.heap.size + 1, 0, none⟩) 1 1, .int .i64 0, .int .i64 0, .int .i64 0, .int .i64 2, .int .i64 0, .int .i64 0], .string ⟨#[98, 111, 108, 100]⟩] W fun e w' => e = .returned (.bool true) ∧ Below W.heap.size W w') := zA fun W hW => by
  have := zGY (.slice (some ⟨w.heap.size + 1, 0, none⟩) 1 1) exA ⟨#[98, 111, 108, 100]⟩ W _ (HD4.out.below (zZ _) hW) (HE.out _ (zW HB4.out hW)) (yZ _ _ qV qV).1 (yZ _ _ qV qV).2 qV;rw [show (⟨#[98, 111, 108, 100]⟩ : ByteArray).data.toList = [98, 111, 108, 100] from rfl, zJE] at this;exact this
 have HVa : Hid (∀ W, Below m4.heap.size m4 W → Calls zV 11 #[.agg #[.slice (some ⟨w.heap.size + 1, 0, none⟩) 1 1, .int .i64 0, .int .i64 0, .int .i64 0, .int .i64 2, .int .i64 0, .int .i64 0], .string ⟨#[102, 111, 114, 109, 97, 116, 66, 108, 111, 99, 107]⟩] W fun e w' => e = .returned (.string ⟨#[112]⟩) ∧ Below W.heap.size W w') := zA fun W hW => by
  have := zGW (.slice (some ⟨w.heap.size + 1, 0, none⟩) 1 1) exA ⟨#[102, 111, 114, 109, 97, 116, 66, 108, 111, 99, 107]⟩ W _ (HD4.out.below (zZ _) hW) (HE.out _ (zW HB4.out hW)) (yZ _ _ qV qV).1 (yZ _ _ qV qV).2 qV;rw [show (⟨#[102, 111, 114, 109, 97, 116, 66, 108, 111, 99, 107]⟩ : ByteArray).data.toList = [102, 111, 114, 109, 97, 116, 66, 108, 111, 99, 107] from rfl, zJD] at this;exact this
 go_wp2_with fail
 with_reducible refine HDt.out.mono ?_
 rintro e w5 ⟨rfl, hb5⟩;obtain ⟨q5, g5⟩ := blk (zX hb5 HK4.out);obtain ⟨q1, g1⟩ := blk (zX hb5 HN1_4.out);obtain ⟨q3, g3⟩ := blk (zX hb5 HN3_4.out);have HX1 := zA (zLl (HR1_4.out.below hb5));have HX3 := zA (uU (HR3_4.out.below hb5) (i := 0) (l := ⟨0, [], 2, [⟨97, 0, []⟩, ⟨98, 1, []⟩]⟩) rfl);obtain ⟨pa, oa, na, la, lc, pb, ob, nb, he1, _, _, _, a2, b2, _, hn2, hn3, hn4, hn5⟩ := HX1.out;cases he1;obtain ⟨pc, oc, nc, lac, lcc, cac, ccc, he3, hc3, hm3, hA3, _⟩ := HX3.out;cases he3;rw [Nat.zero_mul, Nat.add_zero] at hA3;obtain ⟨_, _, _, c2, _, _, _⟩ := hA3;unfold maxLen at hn2 hn3 hm3;clear HX1 HX3;go_wp2_with fail
 with_reducible refine (HIn.out _ hb5).mono ?_
 rintro e w6 ⟨rfl, hst6⟩;have hb6 := zW hb5 hst6;obtain ⟨q6, g6⟩ := blk (zX hb6 HK4.out);go_wp2_with fail
 with_reducible refine (HVa.out _ hb6).mono ?_
 rintro e w7 ⟨rfl, hst7⟩;have hb7 := zW hb6 hst7;go_wp2_with fail;go_ret;exact ⟨rfl, zW HB4.out hb7⟩
end Go.Proofs.YtjgeadoncanheaaGreatDoor
namespace Go.Proofs.YtjgeadoncanheaaGreatDoor
open Go.RowKit
open Go.Proofs.Qw
attribute [local go_sem] Oper.semAt_some
structure QW (P : Program) (ops : Array Oper) (C : World → Prop) (Q : Act → Prop) (rest : List Oper) (a : Act) : Prop where
 out : wpQuiet P ops C Q rest a
theorem QW.want {P : Program} {ops : Array Oper} {C : World → Prop} {Q : Act → Prop} {a : Act} {o : Oper} {rest : List Oper} (hw : Region.wanted o (yielded ops a.tmps) = true) (h : ∀ K : Act → Prop, (∀ a, QW P ops C Q rest a → K a) → o.quiet P a C K) : QW P ops C Q (o :: rest) a :=
 ⟨BigFrame.wpQuiet_want hw fun K hK => h K fun a ha => hK a ha.out⟩
theorem QW.skip {P : Program} {ops : Array Oper} {C : World → Prop} {Q : Act → Prop} {a : Act} {o : Oper} {rest : List Oper} (hw : Region.wanted o (yielded ops a.tmps) = false) (h : QW P ops C Q rest (a.put o.dst undef)) : QW P ops C Q (o :: rest) a :=
 ⟨BigFrame.wpQuiet_skip hw h.out⟩
theorem getG (s : ByteArray) (k : Nat) (h : k < s.size) : s.data.toList[k]? = some s[k] := by rw [Array.getElem?_toList, Array.getElem?_eq_getElem h]; rfl
end Go.Proofs.YtjgeadoncanheaaGreatDoor
namespace Go.Proofs.Qw
open Go.RowKit Go.Proofs.YtjgeadoncanheaaGreatDoor
theorem zKe {b : UInt8} (h1 : 65 ≤ (b.toNat : Int)) (h2 : (b.toNat : Int) ≤ 90) : (b.toNat : Int) + 32 = ((lowB b).toNat : Int) := by
 unfold lowB;rw [if_pos ⟨by omega, by omega⟩, UInt8.toNat_add];have e : (32 : UInt8).toNat = 32 := rfl;rw [e]
 omega
theorem zKH {b : UInt8} (h : ¬ (65 ≤ (b.toNat : Int) ∧ (b.toNat : Int) ≤ 90)) : lowB b = b := by
 unfold lowB;rw [if_neg qC]
theorem zKP {a b : UInt8} : ((a.toNat : Int) == (b.toNat : Int)) = decide (a = b) := by
 rw [Bool.eq_iff_iff, beq_iff_eq, decide_eq_true_eq];constructor
 ·intro h; exact UInt8.toNat_inj.1 qC
 ·rintro rfl; rfl
end Go.Proofs.Qw
namespace Go.Proofs.YtjgeadoncanheaaGreatDoor
open Go.RowKit
open Go.Proofs.Qw
attribute [local go_sem] Oper.semAt_some
theorem zDS (b : UInt8) (w : World) : Calls Tryz.prog 41 #[.int .u8 (b.toNat : Int)] w fun e w' => e = .returned (.int .u8 ((lowB b).toNat : Int)) ∧ w' = w := by
 have hb := b.toNat_lt;obtain ⟨x, hx⟩ : ∃ x : Int, (b.toNat : Int) = x := ⟨_, rfl⟩
 by_cases h : 65 ≤ (b.toNat : Int) ∧ (b.toNat : Int) ≤ 90
 ·have e := zKe h.1 h.2
  obtain ⟨h1, h2⟩ := h;rw [hx] at h1 h2 e ⊢;rw [← e];have e1 : IntKind.u8.wrap (x + 32) = x + 32 := IntWalk.u8_in _ qC;clear hx e;go_enter Tryz.func41, Tryz.ntmps41;go_wp2_with fail;go_ret;exact ⟨rfl, rfl⟩
 ·rw [zKH h]
  rw [hx] at h ⊢;have h' : ¬ 65 ≤ x ∨ (65 ≤ x ∧ ¬ x ≤ 90) := by omega
  clear h hx;rcases h' with h1 | ⟨h1, h2⟩
  all_goals
   go_enter Tryz.func41, Tryz.ntmps41;go_wp2_with fail;go_ret;exact ⟨rfl, rfl⟩
end Go.Proofs.YtjgeadoncanheaaGreatDoor
namespace Go.Proofs.Qw
open Go.RowKit Go.Proofs.YtjgeadoncanheaaGreatDoor
theorem zKK {name : List UInt8} {k : Nat} {c : Cmd} (hc : cmds[k]? = some c) (h : c.name.map lowB = name.map lowB) : jT name = some k := (zJC h.symm).trans (zJB hc)
theorem zKJ {name : List UInt8} (h : ∀ c ∈ cmds, c.name.map lowB ≠ name.map lowB) : jT name = none := by
 unfold jT;rw [List.findIdx?_eq_none_iff];intro c hc;exact decide_eq_false (h c hc)
end Go.Proofs.Qw
namespace Go.Proofs.YtjgeadoncanheaaGreatDoor
open Go.RowKit
open Go.Proofs.Qw
attribute [local go_sem] Oper.semAt_some
open _root_.Go.Lib renaming hid → zA
open _root_.Nat renaming le_refl → zC
open _root_.Go.RowKit.Below renaming refl → zE
open _root_.List renaming getElem?_eq_some_iff → zK
open _root_.Int renaming natCast_nonneg → zR
open _root_.Go.Act renaming put → zU
open _root_.Go.Proofs.Tryz renaming prog → zV
open _root_.Go.Proofs.Qw renaming kR → qK
theorem zKs : ∀ (i : Fin 17) (j : Fin 3), (cmds.flatMap vV)[i.val * 3 + j.val]? = (vV (cmds[i.val]'i.isLt))[j.val]? := fun i j => by
 match i, j with
 | ⟨i, hi⟩, ⟨j, hj⟩ =>
  have e1 : i = 0 ∨ i = 1 ∨ i = 2 ∨ i = 3 ∨ i = 4 ∨ i = 5 ∨ i = 6 ∨ i = 7 ∨ i = 8 ∨ i = 9 ∨ i = 10 ∨ i = 11 ∨ i = 12 ∨ i = 13 ∨ i = 14 ∨ i = 15 ∨ i = 16 := by omega
  have e2 : j = 0 ∨ j = 1 ∨ j = 2 := by omega
  rcases e2 with rfl | rfl | rfl <;> rcases e1 with rfl | rfl | rfl | rfl | rfl | rfl | rfl | rfl | rfl | rfl | rfl | rfl | rfl | rfl | rfl | rfl | rfl <;> rfl
theorem zIO {w : World} {b : Nat} {S : Nat → Prop} (h : w.heap[b]? = some (.cells (cmds.flatMap vV).toArray 34)) (hS : S b) : zAt true w S (.slice (some ⟨b, 0, none⟩) 17 17) cmds := by
 refine ⟨some ⟨b, 0, none⟩, 17, rfl, zC _, by decide, .inr ⟨b, 0, rfl, hS, (Array.getElem?_eq_some_iff.1 h).1, fun _ => ⟨_, h, by decide⟩, fun i x hx => ⟨vV x, rfl, rfl, fun j u hu => ?_⟩⟩⟩;obtain ⟨hi, rfl⟩ := zK.1 hx;have hj : j < 3 := (zK.1 hu).1;rw [jR h, List.getElem?_toArray, Nat.zero_add];exact (zKs ⟨i, hi⟩ ⟨j, hj⟩).trans hu
set_option maxRecDepth 100000 in
theorem zDT (w : World) : Calls zV 14 #[] w fun e w' => ∃ v, e = .returned v ∧ zAt true w' (fun b => w.heap.size ≤ b) v cmds ∧ Below w.heap.size w w' := by
 have HB := zA fun (o : Obj) => (zE w.heap.size w).alloc (zC _) o;have HV : Hid (zAt true (w.alloc (.cells (cmds.flatMap vV).toArray 34)) (fun b => w.heap.size ≤ b) (.slice (some ⟨w.heap.size, 0, none⟩) 17 17) cmds) := zA (zIO (jD _ _ rfl) (zC _));go_enter Tryz.func14, Tryz.ntmps14;go_wp2_with fail;go_ret;exact ⟨.slice (some ⟨w.heap.size, 0, none⟩) 17 17, by first | rfl | trivial, HV.out, HB.out _⟩
set_option maxRecDepth 100000 in
theorem zDK (name : ByteArray) (w : World) (hs : name.size ≤ 2000000) : Calls zV 16 #[.string name] w fun e w' => e = .returned (.tuple #[.int .i64 (kH name.data.toList), .bool (jT name.data.toList).isSome]) ∧ Below w.heap.size w w' := by
 obtain ⟨R, hR⟩ : ∃ R, jT name.data.toList = R := ⟨_, rfl⟩;have hRN : kH name.data.toList = R.getD 0 := by unfold kH; rw [hR]
 rw [hRN, hR];have HR := zA hR;clear hR hRN;go_enter Tryz.func16, Tryz.ntmps16;go_wp2_with (go_at_call 14; refine (zDT _).mono ?_; rintro e w2 ⟨v, rfl, hv, hb2⟩; have HV2 := zA hv; have HB2 := zA hb2; obtain ⟨la, cp, rfl, hcp, hcl⟩ := zBi hv; have hl17 : cmds.length = 17 := rfl; rw [hl17] at hcp ⊢; have HCL := zA hcl; clear hv hl17 hcl hb2);go_loopw [5] (fun iv wr => ∃ i : Nat, i ≤ 17 ∧ iv = .int .i64 i ∧ Hid (Below w2.heap.size w2 wr) ∧ Hid (∀ c ∈ cmds.take i, c.name.map lowB ≠ name.data.toList.map lowB)) (fun iv _ => 17 - (intOf iv).toNat)
 case atStart => exact ⟨0, by omega, rfl, zA (zE _ _), zA (fun c hc => by simp at hc)⟩
 case round =>
  obtain ⟨i, hi, rfl, HBw, HT⟩ := hrel;obtain ⟨w1, rfl⟩ : ∃ x, x = wr := ⟨_, rfl⟩
  by_cases hlt : i < 17
  ·obtain ⟨c, hc⟩ : ∃ c, cmds[i]? = some c := ⟨_, List.getElem?_eq_getElem (by exact hlt)⟩
   obtain ⟨bb, oo, rfl, hbs, cc0, _, _⟩ := HCL.out i c hc;have HC := zA hc;have hcl := zJF hc;have HCell0 : Hid (∀ W, Below w1.heap.size w1 W → W.cell? ⟨bb, oo + i * 3, none⟩ = some (.string ⟨c.name.toArray⟩)) := zA fun W hW => ((HBw.out.trans (hW.mono HBw.out.size)).cell (p := ⟨bb, oo + i * 3, none⟩) hbs).trans cc0;have c0 := HCell0.out w1 (zE _ _);have i1 : (i : Int) < 17 := by omega
   have i0 : (0 : Int) ≤ (i : Int) := zR _;have e1 : IntKind.i64.wrap ((i : Int) + 1) = ((i + 1 : Nat) : Int) := by rw [IntWalk.i64_in _ qC]; rfl
   obtain ⟨cn, hcn⟩ : ∃ cn : ByteArray, ⟨c.name.toArray⟩ = cn := ⟨_, rfl⟩;have hcs : cn.size ≤ 30 := by rw [← hcn]; simpa [ByteArray.size] using hcl
   have HCN : Hid (c.name = cn.data.toList) := zA (by rw [← hcn]);rw [hcn] at HCell0 c0;clear hc hcl hcn cc0
   have HNext : Hid (c.name.map lowB ≠ name.data.toList.map lowB → ∀ x ∈ cmds.take (i + 1), x.name.map lowB ≠ name.data.toList.map lowB) := zA fun hne x hx => by
    rw [xQ HC.out] at hx;rcases List.mem_append.1 hx with h | h
    ·exact HT.out x h
    ·simp at h; subst h; exact hne
   go_wp2_with fail;go_loopw [6, 7] (fun bv kv ws => ∃ k : Nat, k ≤ name.size ∧ kv = .int .i64 k ∧ bv = .bool (decide (cn.size = name.size) && decide ((cn.data.toList.take k).map lowB = (name.data.toList.take k).map lowB)) ∧ Hid (Below w1.heap.size w1 ws)) (fun _ kv _ => name.size - (intOf kv).toNat)
   case atStart => exact ⟨0, Nat.zero_le _, rfl, by
    have e : ((cn.size : Int) == (name.size : Int)) = decide (cn.size = name.size) := by rw [Bool.eq_iff_iff, beq_iff_eq, decide_eq_true_eq]; omega
    simp [e], zA (zE _ _)⟩
   case round =>
    obtain ⟨k, hk, rfl, rfl, HBk⟩ := hrel
    by_cases hsz : cn.size = name.size
    ·by_cases htk : (cn.data.toList.take k).map lowB = (name.data.toList.take k).map lowB
     ·have hbt : (decide (cn.size = name.size) && decide ((cn.data.toList.take k).map lowB = (name.data.toList.take k).map lowB)) = true := by rw [decide_eq_true hsz, decide_eq_true htk]; rfl
      rw [hbt]
      by_cases hkn : k < name.size
      ·have hkc : k < cn.size := by omega
       have HG := zA (And.intro (getG name k hkn) (getG cn k hkc));have HTK := zA htk;have HSZ := zA hsz;have j1 : (k : Int) < (name.size : Int) := by omega
       have j2 : (k : Int) < (cn.size : Int) := by omega
       have j0 : (0 : Int) ≤ (k : Int) := zR _;have e2 : IntKind.i64.wrap ((k : Int) + 1) = ((k + 1 : Nat) : Int) := by rw [IntWalk.i64_in _ qC]; rfl
       have HCk : Hid (∀ W, Below wr.heap.size wr W → W.cell? ⟨bb, oo + i * 3, none⟩ = some (.string cn)) := zA fun W hW => HCell0.out W (jF HBk.out hW);have HS1 : Hid (∀ W, Below wr.heap.size wr W → Calls zV 41 #[.int .u8 (name[k].toNat : Int)] W fun e w' => e = .returned (.int .u8 ((lowB name[k]).toNat : Int)) ∧ Below W.heap.size W w') := zA fun W _ => (zDS name[k] W).mono (by rintro e w' ⟨h1, rfl⟩; exact ⟨h1, zE _ _⟩);have HS2 : Hid (∀ W, Below wr.heap.size wr W → Calls zV 41 #[.int .u8 (cn[k].toNat : Int)] W fun e w' => e = .returned (.int .u8 ((lowB cn[k]).toNat : Int)) ∧ Below W.heap.size W w') := zA fun W _ => (zDS cn[k] W).mono (by rintro e w' ⟨h1, rfl⟩; exact ⟨h1, zE _ _⟩);have hwr : Below wr.heap.size wr wr := zE _ _;clear hbt htk hsz;go_wp2_with fail;refine kX wr.heap.size zT zT (QWk.out ?_);refine QWk.want zT (fun K hK => ?_); refine qK ?_ (fun W hW => ?_) (hK _ ?_); rotate_left 1; (focus (skip; go_simp; try rfl)); clear hK K; (try simp only [zU, qI, qX, qY]);refine QWk.want zT (fun K hK => ?_); refine qK ?_ (fun W hW => ?_) (hK _ ?_); rotate_left 1; (focus (skip; go_simp; try rfl)); clear hK K; (try simp only [zU, qI, qX, qY]);refine QWk.want zT (fun K hK => ?_); refine qK ?_ (fun W hW => ?_) (hK _ ?_); rotate_left 1; (focus (skip; go_simp; try rfl)); clear hK K; (try simp only [zU, qI, qX, qY]);refine QWk.want zT (fun K hK => ?_); refine vP (f := ?_) (args := ?_) ?_ (fun W hW => ?_) (fun W hW => ?_) (hK _ ?_); rotate_left 3; (focus (go_simp; constructor <;> rfl)); (focus (refine (HS1.out _ (jF hwr hW)).mono ?_; rintro e W2 ⟨rfl, hbW⟩; refine ⟨?_, jF hW hbW⟩; rfl)); clear hK K; (try simp only [zU, qI, qX, qY]);refine QWk.want zT (fun K hK => ?_); refine qK ?_ (fun W hW => ?_) (hK _ ?_); rotate_left 1; (focus (skip; go_simp; try rfl)); clear hK K; (try simp only [zU, qI, qX, qY]);refine QWk.want zT (fun K hK => ?_); refine qK ?_ (fun W hW => ?_) (hK _ ?_); rotate_left 1; (focus (skip; go_simp; try rfl)); clear hK K; (try simp only [zU, qI, qX, qY]);refine QWk.want zT (fun K hK => ?_); refine qK ?_ (fun W hW => ?_) (hK _ ?_); rotate_left 1; (focus (skip; go_simp; try rfl)); clear hK K; (try simp only [zU, qI, qX, qY]);refine QWk.want zT (fun K hK => ?_); refine qK ?_ (fun W hW => ?_) (hK _ ?_); rotate_left 1; (focus (skip; go_simp; try rfl)); clear hK K; (try simp only [zU, qI, qX, qY]);refine QWk.want zT (fun K hK => ?_); refine qK ?_ (fun W hW => ?_) (hK _ ?_); rotate_left 1; (focus (have q0 := HCk.out _ hW; go_simp; try rfl)); clear hK K; (try simp only [zU, qI, qX, qY]);refine QWk.want zT (fun K hK => ?_); refine qK ?_ (fun W hW => ?_) (hK _ ?_); rotate_left 1; (focus (skip; go_simp; try rfl)); clear hK K; (try simp only [zU, qI, qX, qY]);refine QWk.want zT (fun K hK => ?_); refine qK ?_ (fun W hW => ?_) (hK _ ?_); rotate_left 1; (focus (skip; go_simp; try rfl)); clear hK K; (try simp only [zU, qI, qX, qY]);refine QWk.want zT (fun K hK => ?_); refine vP (f := ?_) (args := ?_) ?_ (fun W hW => ?_) (fun W hW => ?_) (hK _ ?_); rotate_left 3; (focus (go_simp; constructor <;> rfl)); (focus (refine (HS2.out _ (jF hwr hW)).mono ?_; rintro e W2 ⟨rfl, hbW⟩; refine ⟨?_, jF hW hbW⟩; rfl)); clear hK K; (try simp only [zU, qI, qX, qY])
       refine QWk.want zT (fun K hK => ?_); refine qK ?_ (fun W hW => ?_) (hK _ ?_); rotate_left 1; (focus (skip; go_simp; try rfl)); clear hK K; (try simp only [zU, qI, qX, qY]);refine QWk.want zT (fun K hK => ?_); refine qK ?_ (fun W hW => ?_) (hK _ ?_); rotate_left 1; (focus (skip; go_simp; try rfl)); clear hK K; (try simp only [zU, qI, qX, qY]);refine QWk.mk (wpQuiet_nil (fun X6 hstX6 => ?_));go_wp2_with fail;go_roundw
       case rel => exact ⟨k + 1, by omega, by go_num, by
        rw [zKP, decide_eq_true HSZ.out, Bool.true_and, xQ HG.out.1, xQ HG.out.2, List.map_append, List.map_append, HTK.out];refine congrArg Value.bool (decide_eq_decide.2 ?_);rw [List.append_cancel_left_eq];simp only [List.map_cons, List.map_nil, List.cons.injEq, and_true];exact eq_comm, zA (jF HBk.out hstX6)⟩
       case measure => simp [intOf]; omega
      ·obtain rfl : k = name.size := by omega
       have hfull : c.name.map lowB = name.data.toList.map lowB := by
        rw [HCN.out];rw [List.take_of_length_le (by rw [Array.length_toList]; exact Nat.le_of_eq hsz), List.take_of_length_le (by rw [Array.length_toList]; exact zC _)] at htk;exact htk
       have hr : R = some i := HR.out.symm.trans (zKK HC.out hfull);have hkn' : ¬ (name.size : Int) < (name.size : Int) := by omega
       have HFin : Hid (Below w.heap.size w wr) := zA (HB2.out.trans ((HBw.out.trans (HBk.out.mono HBw.out.size)).mono HB2.out.size));clear HR HNext hbt htk hsz hfull;subst hr;go_wp2_with fail;go_ret2;exact ⟨rfl, HFin.out⟩
     ·have hbt : (decide (cn.size = name.size) && decide ((cn.data.toList.take k).map lowB = (name.data.toList.take k).map lowB)) = false := by rw [decide_eq_false htk, Bool.and_false]
      rw [hbt]
      have hne : c.name.map lowB ≠ name.data.toList.map lowB := by
       intro e;rw [HCN.out] at e;exact htk (by rw [List.map_take, List.map_take, e])
      have HNE := zA (HNext.out hne);have HB9 : Hid (Below w2.heap.size w2 wr) := zA (HBw.out.trans (HBk.out.mono HBw.out.size));clear hbt htk hsz hne HNext;go_wp2_with fail;go_roundw
      case rel => exact ⟨i + 1, by omega, by go_num, HB9, HNE⟩
      case measure => simp [intOf]; omega
    ·have hbt : (decide (cn.size = name.size) && decide ((cn.data.toList.take k).map lowB = (name.data.toList.take k).map lowB)) = false := by rw [decide_eq_false hsz, Bool.false_and]
     rw [hbt]
     have hne : c.name.map lowB ≠ name.data.toList.map lowB := by
      intro e;have := congrArg List.length e;rw [HCN.out, List.length_map, List.length_map, Array.length_toList, Array.length_toList] at this;exact hsz this
     have HNE := zA (HNext.out hne);have HB9 : Hid (Below w2.heap.size w2 wr) := zA (HBw.out.trans (HBk.out.mono HBw.out.size));clear hbt hsz hne HNext;go_wp2_with fail;go_roundw
     case rel => exact ⟨i + 1, by omega, by go_num, HB9, HNE⟩
     case measure => simp [intOf]; omega
  ·obtain rfl : i = 17 := by omega
   have hr : R = none := HR.out.symm.trans (zKJ (fun c hc => HT.out c (by rw [List.take_of_length_le (by rw [zDe]; exact zC _)]; exact hc)));have HFin : Hid (Below w.heap.size w w1) := zA (HB2.out.trans (HBw.out.mono HB2.out.size));clear HR HT;subst hr;go_wp2_with fail;go_ret2;exact ⟨rfl, HFin.out⟩
set_option maxRecDepth 100000 in
theorem zGx (name a : ByteArray) (w : World) (hn : name.size ≤ 1000000) :
  Calls zV 18 #[.string name, .string a] w fun e w' => e = .returned (.tuple #[.string ⟨(kW name.data.toList a.data.toList).1.toArray⟩, .bool (kW name.data.toList a.data.toList).2]) ∧ Below w.heap.size w w' := by
 have HFd := zA (zDK name w qC);obtain ⟨R, hR⟩ : ∃ R, jT name.data.toList = R := ⟨_, rfl⟩;have HFN := zA (show kH name.data.toList = R.getD 0 by unfold kH; rw [hR]);have HLT : Hid (∀ k, R = some k → k < 17) := zA fun k e => zAn (hR.trans e);have HR0 := zA hR;rw [hR, HFN.out] at HFd;clear hR hn;have ha : (⟨a.data.toList.toArray⟩ : ByteArray) = a := by simp
 cases R with
 | none =>
  have HR : Hid (kW name.data.toList a.data.toList = ([], false)) := zA (by unfold kW; rw [HR0.out]);have HFd : Hid (Calls zV 16 #[.string name] w fun e w' => e = .returned (.tuple #[.int .i64 0, .bool false]) ∧ Below w.heap.size w w') := zA HFd.out;rw [HR.out];clear HR0 HLT HFN ha;go_enter Tryz.func18, Tryz.ntmps18;go_wp2_with (go_at_call 16; refine HFd.out.mono ?_; rintro e w2 ⟨rfl, hb2⟩);go_ret2;exact ⟨rfl, hb2⟩
 | some k =>
  have hk := HLT.out k rfl;have HFd : Hid (Calls zV 16 #[.string name] w fun e w' => e = .returned (.tuple #[.int .i64 (k : Int), .bool true]) ∧ Below w.heap.size w w') := zA HFd.out;obtain ⟨c, hc⟩ : ∃ c, cmds[k]? = some c := ⟨_, List.getElem?_eq_getElem (by exact hk)⟩;have hdi := zKO hc;have hgd : cmds.getD k default = c := by rw [List.getD_eq_getElem?_getD, hc]; rfl
  by_cases hd : k = 0 ∨ k = 9 ∨ k = 12
  ·have HR : Hid (kW name.data.toList a.data.toList = (a.data.toList, true)) := zA (by unfold kW; rw [HR0.out]; simp only [hgd]; rw [if_pos (hdi.2 hd)])
   rw [HR.out];simp only [ha];clear HR0 HLT HFN ha hdi hgd hc HR hk;rcases hd with rfl | rfl | rfl
   all_goals
    go_enter Tryz.func18, Tryz.ntmps18;go_wp2_with (go_at_call 16; refine HFd.out.mono ?_; rintro e w2 ⟨rfl, hb2⟩);go_ret2;exact ⟨rfl, hb2⟩
  ·have HR : Hid (kW name.data.toList a.data.toList = ([], true)) := zA (by unfold kW; rw [HR0.out]; simp only [hgd]; rw [if_neg (fun e => hd (hdi.1 e))])
   rw [HR.out];have i0 : ((k : Int) == 0) = false := by simp; omega
   have i1 : ((k : Int) == 9) = false := by simp; omega
   have i2 : ((k : Int) == 12) = false := by simp; omega
   clear HR0 HLT HFN ha hdi hgd hc HR hd;go_enter Tryz.func18, Tryz.ntmps18;go_wp2_with (go_at_call 16; refine HFd.out.mono ?_; rintro e w2 ⟨rfl, hb2⟩);go_ret2;exact ⟨rfl, hb2⟩
end Go.Proofs.YtjgeadoncanheaaGreatDoor
