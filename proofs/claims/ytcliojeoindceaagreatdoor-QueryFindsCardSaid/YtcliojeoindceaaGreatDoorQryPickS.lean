/- Commands: query.Indeterm, State. -/
import Derived.Test.YtcliojeoindceaaGreatDoorQryAllS
import Derived.Test.YtcliojeoindceaaGreatDoorDocPartS
import Derived.Test.YtcliojeoindceaaGreatDoorSelectS
import Derived.Test.YtcliojeoindceaaGreatDoorQryActsS
import Derived.MapKept
set_option linter.unusedVariables false
set_option linter.unusedSimpArgs false
set_option maxHeartbeats 8000000
namespace Go.Proofs.Qw
open Go.RowKit Go.Proofs.YtcliojeoindceaaGreatDoor
theorem mixed_zero (s : St) : mixedS s 0 = false := by
 have h : ∀ x : Int, bits .and .i64 x 0 = 0 := fun x => by
  unfold bits
  simp
  rfl
 unfold mixedS someL
 simp [h]
theorem indet_is (s : St) (name : List UInt8) (h12 : findQ name ≠ some 12) : indetQ s name = (((listQ s name).2 && !(listQ s name).1) || mixedS s (bitN name)) := by
 unfold indetQ listQ bitN
 cases h : findQ name with
 | none => simp [mixed_zero]
 | some k =>
  simp only
  rw [if_neg (fun e => h12 (by rw [h, e]))]
  by_cases h15 : 15 ≤ k
  ·rw [if_pos h15, if_pos h15]
   have : bitQ k = 0 := by
    unfold bitQ
    rw [if_neg (by omega), if_neg (by omega), if_neg (by omega), if_neg (by omega)]
   rw [this, mixed_zero, Bool.or_false]
  ·rw [if_neg h15, if_neg h15]
   simp
theorem state_is (s : St) (name : List UInt8) : stateQ s name = ((listQ s name).1 || hasS s (bitN name)) := by
 have h0 : hasS s 0 = false := by unfold hasS; rfl
 unfold stateQ listQ bitN
 cases h : findQ name with
 | none => simp [h0]
 | some k =>
  simp only
  by_cases h15 : 15 ≤ k
  ·rw [if_pos h15, if_pos h15]
   have : bitQ k = 0 := by
    unfold bitQ
    rw [if_neg (by omega), if_neg (by omega), if_neg (by omega), if_neg (by omega)]
   rw [this, h0, Bool.or_false]
  ·rw [if_neg h15, if_neg h15]
   simp
end Go.Proofs.Qw
namespace Go.Proofs.YtcliojeoindceaaGreatDoor
open Go.RowKit
open Go.Proofs.Qw
attribute [local go_sem] Oper.semAt_some
open _root_.Go.Lib renaming hid → zA
open _root_.Go.BigFrame renaming wpQuiet_want → zI, wpQuiet_skip → zJ
open _root_.Go.Act renaming put → zU
open _root_.Go.Proofs.Tryz renaming prog → zV
open _root_.Go.Proofs.YtcliojeoindceaaGreatDoor renaming below_from → zX
open _root_.Go.Proofs.Qw renaming quiet_val → qL, quiet_calls → qM
set_option maxRecDepth 100000 in
theorem qryIndet_any (v : Value) (s : St) (name : ByteArray) (w : World) (S : Nat → Prop) (h : LinsR w S v s.lines) (he : EnvT w) (hs : Small s.lines) (hf : Fits s.lines) (hn : name.size ≤ 1000000) :
  Calls zV 19 #[stV v s, .string name] w fun e w' => e = .returned (.bool (indetQ s name.data.toList)) ∧ Below w.heap.size w w' := by
 obtain ⟨W1, hW1, hB, hz, k0⟩ := one_st w v s
 have HB : Hid (∀ W, Below W1.heap.size W1 W → W.heap[w.heap.size]? = some (.cells #[v, .int .i64 s.anc.line, .int .i64 s.anc.col, .int .i64 s.foc.line, .int .i64 s.foc.col, .int .i64 s.on, .int .i64 s.off] 26)) := zA fun W hW => heap_below hW k0
 have hs1 := hB.size
 have H1 := zA hB
 have hw0 : Below W1.heap.size W1 W1 := Below.refl _ _
 have HV : Hid (∀ W, Below W1.heap.size W1 W → LinsR W S v s.lines ∧ EnvT W) := zA fun W hW => ⟨(h.below (rdLin_stable _) hB).below (rdLin_stable _) hW, (he.below hB).below hW⟩
 have HFd : Hid (∀ W, Below W1.heap.size W1 W → Calls zV 26 #[.string name] W fun e w' => e = .returned (.tuple #[.int .i64 (findN name.data.toList), .bool (findQ name.data.toList).isSome]) ∧ Below W.heap.size W w') := zA fun W hW => qryFind_any name W (HV.out W hW).2 hn
 have HLq : Hid (∀ W, Below W1.heap.size W1 W → Calls zV 48 #[stV v s, .string name] W fun e w' => e = .returned (.tuple #[.bool (listQ s name.data.toList).1, .bool (listQ s name.data.toList).2]) ∧ Below W.heap.size W w') := zA fun W hW => qryListed_any v s name W S (HV.out W hW).1 (HV.out W hW).2 hs hf hn
 have HKd : Hid (∀ W, Below W1.heap.size W1 W → Calls zV 53 #[stV v s] W fun e w' => e = .returned (.tuple #[.int .i64 ((kindB s).getD 0), .bool (kindB s).isSome]) ∧ Below W.heap.size W w') := zA fun W hW => blkKind_any v s W S (HV.out W hW).1 (HV.out W hW).2 hs
 have HM : Hid (∀ W, Below W1.heap.size W1 W → Calls zV 23 #[stV v s] W fun e w' => e = .returned (.bool (mayS s)) ∧ Below W.heap.size W w') := zA fun W hW => stMay_any v s W S (HV.out W hW).1 (HV.out W hW).2 hs
 have HBt : Hid (∀ W, Below W1.heap.size W1 W → Calls zV 50 #[.string name] W fun e w' => e = .returned (.int .i64 (bitN name.data.toList)) ∧ Below W.heap.size W w') := zA fun W hW => qryBit_any name W (HV.out W hW).2 hn
 have HMx : Hid (∀ W, Below W1.heap.size W1 W → Calls zV 54 #[stV v s, .int .i64 (bitN name.data.toList)] W fun e w' => e = .returned (.bool (mixedS s (bitN name.data.toList))) ∧ Below W.heap.size W w') := zA fun W hW => styMixed_any v s _ W S (HV.out W hW).1 (HV.out W hW).2 hs hf
 obtain ⟨bt, hbt⟩ : ∃ x, bitN name.data.toList = x := ⟨_, rfl⟩
 obtain ⟨al, hal⟩ : ∃ x, (listQ s name.data.toList).1 = x := ⟨_, rfl⟩
 obtain ⟨so, hso⟩ : ∃ x, (listQ s name.data.toList).2 = x := ⟨_, rfl⟩
 obtain ⟨mx, hmx⟩ : ∃ x, mixedS s (bitN name.data.toList) = x := ⟨_, rfl⟩
 obtain ⟨ma, hma⟩ : ∃ x, mayS s = x := ⟨_, rfl⟩
 obtain ⟨kn, hkn⟩ : ∃ x, (kindB s).isSome = x := ⟨_, rfl⟩
 obtain ⟨kg, hkg⟩ : ∃ x, (kindB s).getD 0 = x := ⟨_, rfl⟩
 have HR1 : Hid (findQ name.data.toList ≠ some 12 → indetQ s name.data.toList = ((so && !al) || mx)) := zA fun h => by rw [indet_is s _ h, hso, hal, hmx]
 have HR2 : Hid (findQ name.data.toList = some 12 → indetQ s name.data.toList = (ma && !kn)) := zA fun h => by
  unfold indetQ
  rw [h, ← hma, ← hkn]
  show (mayS s && (kindB s).isNone) = _
  cases kindB s <;> rfl
 rw [hmx, hbt] at HMx
 rw [hbt] at HBt
 rw [hal, hso] at HLq
 rw [hkn, hkg] at HKd
 rw [hma] at HM
 obtain ⟨r, hr⟩ : ∃ r, findQ name.data.toList = r := ⟨_, rfl⟩
 have HFN := zA (show findN name.data.toList = r.getD 0 by unfold findN; rw [hr])
 have HLT : Hid (∀ k, r = some k → k < 17) := zA fun k e => findQ_lt (hr.trans e)
 rw [hr, HFN.out] at HFd
 rw [hr] at HR1 HR2
 obtain ⟨p0, f0⟩ := blk k0
 obtain ⟨va, vc, rfl⟩ := h.slice
 clear h he hs hf hB k0 hr hbt hal hso hmx hma hkn hkg
 by_cases h12 : r = some 12
 ·have HR := zA (HR2.out h12)
  have HFd : Hid (∀ W, Below W1.heap.size W1 W → Calls zV 26 #[.string name] W fun e w' => e = .returned (.tuple #[.int .i64 12, .bool true]) ∧ Below W.heap.size W w') := zA (by subst h12; exact HFd.out)
  rw [HR.out]
  clear h12 HR HR1 HR2 HLT HFN
  cases ma <;> cases kn
  all_goals
   go_enter Tryz.func19, Tryz.ntmps19
   go_wp2_with (first
    | (go_at_call 48; refine (HLq.out _ hw0).mono ?_; rintro e w2 ⟨rfl, hb2⟩; obtain ⟨q0, g0⟩ := blk (HB.out _ hb2))
    | (go_at_call 26; refine (HFd.out _ hb2).mono ?_; rintro e w3 ⟨rfl, hst3⟩; have hb3 := zX hb2 hst3; obtain ⟨q1, g1⟩ := blk (HB.out _ hb3))
    | (go_at_call 53; refine (HKd.out _ hb3).mono ?_; rintro e w4 ⟨rfl, hst4⟩; have hb4 := zX hb3 hst4; obtain ⟨q2, g2⟩ := blk (HB.out _ hb4))
    | (go_at_call 23; refine (HM.out _ hb4).mono ?_; rintro e w5 ⟨rfl, hst5⟩; have hb5 := zX hb4 hst5))
   go_ret
   exact ⟨rfl, H1.out.trans (hb5.mono hs1)⟩
 ·have HR := zA (HR1.out h12)
  rw [HR.out]
  have hcase : ∃ (k : Int) (ok : Bool), (ok = false ∨ (k == 12) = false) ∧ Hid (∀ W, Below W1.heap.size W1 W → Calls zV 26 #[.string name] W fun e w' => e = .returned (.tuple #[.int .i64 k, .bool ok]) ∧ Below W.heap.size W w') := by
   cases r with
   | none => exact ⟨0, false, .inl rfl, zA HFd.out⟩
   | some k => exact ⟨k, true, .inr (by have : k ≠ 12 := fun e => h12 (by rw [e]); simp; omega), zA HFd.out⟩
  obtain ⟨k, ok, hok, HFd⟩ := hcase
  clear h12 HR HR1 HR2 HLT HFN p0 f0
  have hok2 : ok = false ∨ (ok = true ∧ (k == 12) = false) := by
   rcases hok with h | h
   ·exact .inl h
   ·cases ok
    ·exact .inl rfl
    ·exact .inr ⟨rfl, h⟩
  clear hok
  obtain ⟨p0, f0⟩ := blk (HB.out _ hw0)
  rcases hok2 with rfl | ⟨rfl, d1⟩
  ·cases so <;> cases al
   ·go_enter Tryz.func19, Tryz.ntmps19
    go_wp2_with (first
     | (go_at_call 48; refine (HLq.out _ hw0).mono ?_; rintro e w2 ⟨rfl, hb2⟩; obtain ⟨q0, g0⟩ := blk (HB.out _ hb2))
     | (go_at_call 26; refine (HFd.out _ hb2).mono ?_; rintro e w3 ⟨rfl, hst3⟩; have hb3 := zX hb2 hst3; clear q0 g0))
    refine wp_region_grew w3.heap.size (by kernel_rfl) (by kernel_rfl) ?_
    refine zI (by kernel_rfl) (fun K hK => ?_)
    refine qL ?_ (fun W hW => ?_) (hK _ ?_)
    rotate_left 1
    ·skip
     go_simp
     try rfl
    clear hK
    clear K
    try simp only [zU, qI, qX, qY]
    refine zI (by kernel_rfl) (fun K hK => ?_)
    refine qL ?_ (fun W hW => ?_) (hK _ ?_)
    rotate_left 1
    ·skip
     go_simp
     try rfl
    clear hK
    clear K
    try simp only [zU, qI, qX, qY]
    refine zJ (by kernel_rfl) ?_
    try simp only [zU, qI, qX, qY]
    refine zJ (by kernel_rfl) ?_
    try simp only [zU, qI, qX, qY]
    refine zI (by kernel_rfl) (fun K hK => ?_)
    refine qL ?_ (fun W hW => ?_) (hK _ ?_)
    rotate_left 1
    ·skip
     go_simp
     try rfl
    clear hK
    clear K
    try simp only [zU, qI, qX, qY]
    refine zI (by kernel_rfl) (fun K hK => ?_)
    refine qL ?_ (fun W hW => ?_) (hK _ ?_)
    rotate_left 1
    ·skip
     go_simp
     try rfl
    clear hK
    clear K
    try simp only [zU, qI, qX, qY]
    refine zI (by kernel_rfl) (fun K hK => ?_)
    refine qL ?_ (fun W hW => ?_) (hK _ ?_)
    rotate_left 1
    ·obtain ⟨p0, f0⟩ := blk (HB.out _ (zX hb3 hW))
     go_simp
     try rfl
    clear hK
    clear K
    try simp only [zU, qI, qX, qY]
    refine zI (by kernel_rfl) (fun K hK => ?_)
    refine qL ?_ (fun W hW => ?_) (hK _ ?_)
    rotate_left 1
    ·skip
     go_simp
     try rfl
    clear hK
    clear K
    try simp only [zU, qI, qX, qY]
    refine zI (by kernel_rfl) (fun K hK => ?_)
    refine qM (f := ?_) (args := ?_) ?_ (fun W hW => ?_) (fun W hW => ?_) (hK _ ?_)
    rotate_left 3
    ·go_simp
     constructor <;> rfl
    ·refine (HBt.out _ (zX hb3 hW)).mono ?_
     rintro e W2 ⟨rfl, hbW⟩
     refine ⟨?_, zX hW hbW⟩
     rfl
    clear hK
    clear K
    try simp only [zU, qI, qX, qY]
    refine zI (by kernel_rfl) (fun K hK => ?_)
    refine qM (f := ?_) (args := ?_) ?_ (fun W hW => ?_) (fun W hW => ?_) (hK _ ?_)
    rotate_left 3
    ·go_simp
     constructor <;> rfl
    ·refine (HMx.out _ (zX hb3 hW)).mono ?_
     rintro e W2 ⟨rfl, hbW⟩
     refine ⟨?_, zX hW hbW⟩
     rfl
    clear hK
    clear K
    try simp only [zU, qI, qX, qY]
    refine zI (by kernel_rfl) (fun K hK => ?_)
    refine qL ?_ (fun W hW => ?_) (hK _ ?_)
    rotate_left 1
    ·skip
     go_simp
     try rfl
    clear hK
    clear K
    try simp only [zU, qI, qX, qY]
    refine zI (by kernel_rfl) (fun K hK => ?_)
    refine qL ?_ (fun W hW => ?_) (hK _ ?_)
    rotate_left 1
    ·skip
     go_simp
     try rfl
    clear hK
    clear K
    try simp only [zU, qI, qX, qY]
    refine wpQuiet_nil (fun X6 hstX6 => ?_)
    go_wp2_with fail
    go_ret
    refine ⟨?_, H1.out.trans ((zX hb3 hstX6).mono hs1)⟩
    first | rfl | simp
   ·go_enter Tryz.func19, Tryz.ntmps19
    go_wp2_with (first
     | (go_at_call 48; refine (HLq.out _ hw0).mono ?_; rintro e w2 ⟨rfl, hb2⟩; obtain ⟨q0, g0⟩ := blk (HB.out _ hb2))
     | (go_at_call 26; refine (HFd.out _ hb2).mono ?_; rintro e w3 ⟨rfl, hst3⟩; have hb3 := zX hb2 hst3; clear q0 g0))
    refine wp_region_grew w3.heap.size (by kernel_rfl) (by kernel_rfl) ?_
    refine zI (by kernel_rfl) (fun K hK => ?_)
    refine qL ?_ (fun W hW => ?_) (hK _ ?_)
    rotate_left 1
    ·skip
     go_simp
     try rfl
    clear hK
    clear K
    try simp only [zU, qI, qX, qY]
    refine zI (by kernel_rfl) (fun K hK => ?_)
    refine qL ?_ (fun W hW => ?_) (hK _ ?_)
    rotate_left 1
    ·skip
     go_simp
     try rfl
    clear hK
    clear K
    try simp only [zU, qI, qX, qY]
    refine zJ (by kernel_rfl) ?_
    try simp only [zU, qI, qX, qY]
    refine zJ (by kernel_rfl) ?_
    try simp only [zU, qI, qX, qY]
    refine zI (by kernel_rfl) (fun K hK => ?_)
    refine qL ?_ (fun W hW => ?_) (hK _ ?_)
    rotate_left 1
    ·skip
     go_simp
     try rfl
    clear hK
    clear K
    try simp only [zU, qI, qX, qY]
    refine zI (by kernel_rfl) (fun K hK => ?_)
    refine qL ?_ (fun W hW => ?_) (hK _ ?_)
    rotate_left 1
    ·skip
     go_simp
     try rfl
    clear hK
    clear K
    try simp only [zU, qI, qX, qY]
    refine zI (by kernel_rfl) (fun K hK => ?_)
    refine qL ?_ (fun W hW => ?_) (hK _ ?_)
    rotate_left 1
    ·obtain ⟨p0, f0⟩ := blk (HB.out _ (zX hb3 hW))
     go_simp
     try rfl
    clear hK
    clear K
    try simp only [zU, qI, qX, qY]
    refine zI (by kernel_rfl) (fun K hK => ?_)
    refine qL ?_ (fun W hW => ?_) (hK _ ?_)
    rotate_left 1
    ·skip
     go_simp
     try rfl
    clear hK
    clear K
    try simp only [zU, qI, qX, qY]
    refine zI (by kernel_rfl) (fun K hK => ?_)
    refine qM (f := ?_) (args := ?_) ?_ (fun W hW => ?_) (fun W hW => ?_) (hK _ ?_)
    rotate_left 3
    ·go_simp
     constructor <;> rfl
    ·refine (HBt.out _ (zX hb3 hW)).mono ?_
     rintro e W2 ⟨rfl, hbW⟩
     refine ⟨?_, zX hW hbW⟩
     rfl
    clear hK
    clear K
    try simp only [zU, qI, qX, qY]
    refine zI (by kernel_rfl) (fun K hK => ?_)
    refine qM (f := ?_) (args := ?_) ?_ (fun W hW => ?_) (fun W hW => ?_) (hK _ ?_)
    rotate_left 3
    ·go_simp
     constructor <;> rfl
    ·refine (HMx.out _ (zX hb3 hW)).mono ?_
     rintro e W2 ⟨rfl, hbW⟩
     refine ⟨?_, zX hW hbW⟩
     rfl
    clear hK
    clear K
    try simp only [zU, qI, qX, qY]
    refine zI (by kernel_rfl) (fun K hK => ?_)
    refine qL ?_ (fun W hW => ?_) (hK _ ?_)
    rotate_left 1
    ·skip
     go_simp
     try rfl
    clear hK
    clear K
    try simp only [zU, qI, qX, qY]
    refine zI (by kernel_rfl) (fun K hK => ?_)
    refine qL ?_ (fun W hW => ?_) (hK _ ?_)
    rotate_left 1
    ·skip
     go_simp
     try rfl
    clear hK
    clear K
    try simp only [zU, qI, qX, qY]
    refine wpQuiet_nil (fun X6 hstX6 => ?_)
    go_wp2_with fail
    go_ret
    refine ⟨?_, H1.out.trans ((zX hb3 hstX6).mono hs1)⟩
    first | rfl | simp
   ·go_enter Tryz.func19, Tryz.ntmps19
    go_wp2_with (first
     | (go_at_call 48; refine (HLq.out _ hw0).mono ?_; rintro e w2 ⟨rfl, hb2⟩; obtain ⟨q0, g0⟩ := blk (HB.out _ hb2))
     | (go_at_call 26; refine (HFd.out _ hb2).mono ?_; rintro e w3 ⟨rfl, hst3⟩; have hb3 := zX hb2 hst3; clear q0 g0))
    refine wp_region_grew w3.heap.size (by kernel_rfl) (by kernel_rfl) ?_
    refine zI (by kernel_rfl) (fun K hK => ?_)
    refine qL ?_ (fun W hW => ?_) (hK _ ?_)
    rotate_left 1
    ·skip
     go_simp
     try rfl
    clear hK
    clear K
    try simp only [zU, qI, qX, qY]
    refine zI (by kernel_rfl) (fun K hK => ?_)
    refine qL ?_ (fun W hW => ?_) (hK _ ?_)
    rotate_left 1
    ·skip
     go_simp
     try rfl
    clear hK
    clear K
    try simp only [zU, qI, qX, qY]
    refine zI (by kernel_rfl) (fun K hK => ?_)
    refine qL ?_ (fun W hW => ?_) (hK _ ?_)
    rotate_left 1
    ·skip
     go_simp
     try rfl
    clear hK
    clear K
    try simp only [zU, qI, qX, qY]
    refine zI (by kernel_rfl) (fun K hK => ?_)
    refine qL ?_ (fun W hW => ?_) (hK _ ?_)
    rotate_left 1
    ·skip
     go_simp
     try rfl
    clear hK
    clear K
    try simp only [zU, qI, qX, qY]
    refine zI (by kernel_rfl) (fun K hK => ?_)
    refine qL ?_ (fun W hW => ?_) (hK _ ?_)
    rotate_left 1
    ·skip
     go_simp
     try rfl
    clear hK
    clear K
    try simp only [zU, qI, qX, qY]
    refine zI (by kernel_rfl) (fun K hK => ?_)
    refine qL ?_ (fun W hW => ?_) (hK _ ?_)
    rotate_left 1
    ·skip
     go_simp
     try rfl
    clear hK
    clear K
    try simp only [zU, qI, qX, qY]
    refine zJ (by kernel_rfl) ?_
    try simp only [zU, qI, qX, qY]
    refine zJ (by kernel_rfl) ?_
    try simp only [zU, qI, qX, qY]
    refine zJ (by kernel_rfl) ?_
    try simp only [zU, qI, qX, qY]
    refine zJ (by kernel_rfl) ?_
    try simp only [zU, qI, qX, qY]
    refine zI (by kernel_rfl) (fun K hK => ?_)
    refine qL ?_ (fun W hW => ?_) (hK _ ?_)
    rotate_left 1
    ·skip
     go_simp
     try rfl
    clear hK
    clear K
    try simp only [zU, qI, qX, qY]
    refine zI (by kernel_rfl) (fun K hK => ?_)
    refine qL ?_ (fun W hW => ?_) (hK _ ?_)
    rotate_left 1
    ·skip
     go_simp
     try rfl
    clear hK
    clear K
    try simp only [zU, qI, qX, qY]
    refine wpQuiet_nil (fun X6 hstX6 => ?_)
    go_wp2_with fail
    go_ret
    refine ⟨?_, H1.out.trans ((zX hb3 hstX6).mono hs1)⟩
    first | rfl | simp
   ·go_enter Tryz.func19, Tryz.ntmps19
    go_wp2_with (first
     | (go_at_call 48; refine (HLq.out _ hw0).mono ?_; rintro e w2 ⟨rfl, hb2⟩; obtain ⟨q0, g0⟩ := blk (HB.out _ hb2))
     | (go_at_call 26; refine (HFd.out _ hb2).mono ?_; rintro e w3 ⟨rfl, hst3⟩; have hb3 := zX hb2 hst3; clear q0 g0))
    refine wp_region_grew w3.heap.size (by kernel_rfl) (by kernel_rfl) ?_
    refine zI (by kernel_rfl) (fun K hK => ?_)
    refine qL ?_ (fun W hW => ?_) (hK _ ?_)
    rotate_left 1
    ·skip
     go_simp
     try rfl
    clear hK
    clear K
    try simp only [zU, qI, qX, qY]
    refine zI (by kernel_rfl) (fun K hK => ?_)
    refine qL ?_ (fun W hW => ?_) (hK _ ?_)
    rotate_left 1
    ·skip
     go_simp
     try rfl
    clear hK
    clear K
    try simp only [zU, qI, qX, qY]
    refine zI (by kernel_rfl) (fun K hK => ?_)
    refine qL ?_ (fun W hW => ?_) (hK _ ?_)
    rotate_left 1
    ·skip
     go_simp
     try rfl
    clear hK
    clear K
    try simp only [zU, qI, qX, qY]
    refine zI (by kernel_rfl) (fun K hK => ?_)
    refine qL ?_ (fun W hW => ?_) (hK _ ?_)
    rotate_left 1
    ·skip
     go_simp
     try rfl
    clear hK
    clear K
    try simp only [zU, qI, qX, qY]
    refine zI (by kernel_rfl) (fun K hK => ?_)
    refine qL ?_ (fun W hW => ?_) (hK _ ?_)
    rotate_left 1
    ·skip
     go_simp
     try rfl
    clear hK
    clear K
    try simp only [zU, qI, qX, qY]
    refine zI (by kernel_rfl) (fun K hK => ?_)
    refine qL ?_ (fun W hW => ?_) (hK _ ?_)
    rotate_left 1
    ·skip
     go_simp
     try rfl
    clear hK
    clear K
    try simp only [zU, qI, qX, qY]
    refine zI (by kernel_rfl) (fun K hK => ?_)
    refine qL ?_ (fun W hW => ?_) (hK _ ?_)
    rotate_left 1
    ·obtain ⟨p0, f0⟩ := blk (HB.out _ (zX hb3 hW))
     go_simp
     try rfl
    clear hK
    clear K
    try simp only [zU, qI, qX, qY]
    refine zI (by kernel_rfl) (fun K hK => ?_)
    refine qL ?_ (fun W hW => ?_) (hK _ ?_)
    rotate_left 1
    ·skip
     go_simp
     try rfl
    clear hK
    clear K
    try simp only [zU, qI, qX, qY]
    refine zI (by kernel_rfl) (fun K hK => ?_)
    refine qM (f := ?_) (args := ?_) ?_ (fun W hW => ?_) (fun W hW => ?_) (hK _ ?_)
    rotate_left 3
    ·go_simp
     constructor <;> rfl
    ·refine (HBt.out _ (zX hb3 hW)).mono ?_
     rintro e W2 ⟨rfl, hbW⟩
     refine ⟨?_, zX hW hbW⟩
     rfl
    clear hK
    clear K
    try simp only [zU, qI, qX, qY]
    refine zI (by kernel_rfl) (fun K hK => ?_)
    refine qM (f := ?_) (args := ?_) ?_ (fun W hW => ?_) (fun W hW => ?_) (hK _ ?_)
    rotate_left 3
    ·go_simp
     constructor <;> rfl
    ·refine (HMx.out _ (zX hb3 hW)).mono ?_
     rintro e W2 ⟨rfl, hbW⟩
     refine ⟨?_, zX hW hbW⟩
     rfl
    clear hK
    clear K
    try simp only [zU, qI, qX, qY]
    refine zI (by kernel_rfl) (fun K hK => ?_)
    refine qL ?_ (fun W hW => ?_) (hK _ ?_)
    rotate_left 1
    ·skip
     go_simp
     try rfl
    clear hK
    clear K
    try simp only [zU, qI, qX, qY]
    refine zI (by kernel_rfl) (fun K hK => ?_)
    refine qL ?_ (fun W hW => ?_) (hK _ ?_)
    rotate_left 1
    ·skip
     go_simp
     try rfl
    clear hK
    clear K
    try simp only [zU, qI, qX, qY]
    refine wpQuiet_nil (fun X6 hstX6 => ?_)
    go_wp2_with fail
    go_ret
    refine ⟨?_, H1.out.trans ((zX hb3 hstX6).mono hs1)⟩
    first | rfl | simp
  ·cases so <;> cases al
   ·go_enter Tryz.func19, Tryz.ntmps19
    go_wp2_with (first
     | (go_at_call 48; refine (HLq.out _ hw0).mono ?_; rintro e w2 ⟨rfl, hb2⟩; obtain ⟨q0, g0⟩ := blk (HB.out _ hb2))
     | (go_at_call 26; refine (HFd.out _ hb2).mono ?_; rintro e w3 ⟨rfl, hst3⟩; have hb3 := zX hb2 hst3; clear q0 g0))
    refine wp_region_grew w3.heap.size (by kernel_rfl) (by kernel_rfl) ?_
    refine zI (by kernel_rfl) (fun K hK => ?_)
    refine qL ?_ (fun W hW => ?_) (hK _ ?_)
    rotate_left 1
    ·skip
     go_simp
     try rfl
    clear hK
    clear K
    try simp only [zU, qI, qX, qY]
    refine zI (by kernel_rfl) (fun K hK => ?_)
    refine qL ?_ (fun W hW => ?_) (hK _ ?_)
    rotate_left 1
    ·skip
     go_simp
     try rfl
    clear hK
    clear K
    try simp only [zU, qI, qX, qY]
    refine zJ (by kernel_rfl) ?_
    try simp only [zU, qI, qX, qY]
    refine zJ (by kernel_rfl) ?_
    try simp only [zU, qI, qX, qY]
    refine zI (by kernel_rfl) (fun K hK => ?_)
    refine qL ?_ (fun W hW => ?_) (hK _ ?_)
    rotate_left 1
    ·skip
     go_simp
     try rfl
    clear hK
    clear K
    try simp only [zU, qI, qX, qY]
    refine zI (by kernel_rfl) (fun K hK => ?_)
    refine qL ?_ (fun W hW => ?_) (hK _ ?_)
    rotate_left 1
    ·skip
     go_simp
     try rfl
    clear hK
    clear K
    try simp only [zU, qI, qX, qY]
    refine zI (by kernel_rfl) (fun K hK => ?_)
    refine qL ?_ (fun W hW => ?_) (hK _ ?_)
    rotate_left 1
    ·obtain ⟨p0, f0⟩ := blk (HB.out _ (zX hb3 hW))
     go_simp
     try rfl
    clear hK
    clear K
    try simp only [zU, qI, qX, qY]
    refine zI (by kernel_rfl) (fun K hK => ?_)
    refine qL ?_ (fun W hW => ?_) (hK _ ?_)
    rotate_left 1
    ·skip
     go_simp
     try rfl
    clear hK
    clear K
    try simp only [zU, qI, qX, qY]
    refine zI (by kernel_rfl) (fun K hK => ?_)
    refine qM (f := ?_) (args := ?_) ?_ (fun W hW => ?_) (fun W hW => ?_) (hK _ ?_)
    rotate_left 3
    ·go_simp
     constructor <;> rfl
    ·refine (HBt.out _ (zX hb3 hW)).mono ?_
     rintro e W2 ⟨rfl, hbW⟩
     refine ⟨?_, zX hW hbW⟩
     rfl
    clear hK
    clear K
    try simp only [zU, qI, qX, qY]
    refine zI (by kernel_rfl) (fun K hK => ?_)
    refine qM (f := ?_) (args := ?_) ?_ (fun W hW => ?_) (fun W hW => ?_) (hK _ ?_)
    rotate_left 3
    ·go_simp
     constructor <;> rfl
    ·refine (HMx.out _ (zX hb3 hW)).mono ?_
     rintro e W2 ⟨rfl, hbW⟩
     refine ⟨?_, zX hW hbW⟩
     rfl
    clear hK
    clear K
    try simp only [zU, qI, qX, qY]
    refine zI (by kernel_rfl) (fun K hK => ?_)
    refine qL ?_ (fun W hW => ?_) (hK _ ?_)
    rotate_left 1
    ·skip
     go_simp
     try rfl
    clear hK
    clear K
    try simp only [zU, qI, qX, qY]
    refine zI (by kernel_rfl) (fun K hK => ?_)
    refine qL ?_ (fun W hW => ?_) (hK _ ?_)
    rotate_left 1
    ·skip
     go_simp
     try rfl
    clear hK
    clear K
    try simp only [zU, qI, qX, qY]
    refine wpQuiet_nil (fun X6 hstX6 => ?_)
    go_wp2_with fail
    go_ret
    refine ⟨?_, H1.out.trans ((zX hb3 hstX6).mono hs1)⟩
    first | rfl | simp
   ·go_enter Tryz.func19, Tryz.ntmps19
    go_wp2_with (first
     | (go_at_call 48; refine (HLq.out _ hw0).mono ?_; rintro e w2 ⟨rfl, hb2⟩; obtain ⟨q0, g0⟩ := blk (HB.out _ hb2))
     | (go_at_call 26; refine (HFd.out _ hb2).mono ?_; rintro e w3 ⟨rfl, hst3⟩; have hb3 := zX hb2 hst3; clear q0 g0))
    refine wp_region_grew w3.heap.size (by kernel_rfl) (by kernel_rfl) ?_
    refine zI (by kernel_rfl) (fun K hK => ?_)
    refine qL ?_ (fun W hW => ?_) (hK _ ?_)
    rotate_left 1
    ·skip
     go_simp
     try rfl
    clear hK
    clear K
    try simp only [zU, qI, qX, qY]
    refine zI (by kernel_rfl) (fun K hK => ?_)
    refine qL ?_ (fun W hW => ?_) (hK _ ?_)
    rotate_left 1
    ·skip
     go_simp
     try rfl
    clear hK
    clear K
    try simp only [zU, qI, qX, qY]
    refine zJ (by kernel_rfl) ?_
    try simp only [zU, qI, qX, qY]
    refine zJ (by kernel_rfl) ?_
    try simp only [zU, qI, qX, qY]
    refine zI (by kernel_rfl) (fun K hK => ?_)
    refine qL ?_ (fun W hW => ?_) (hK _ ?_)
    rotate_left 1
    ·skip
     go_simp
     try rfl
    clear hK
    clear K
    try simp only [zU, qI, qX, qY]
    refine zI (by kernel_rfl) (fun K hK => ?_)
    refine qL ?_ (fun W hW => ?_) (hK _ ?_)
    rotate_left 1
    ·skip
     go_simp
     try rfl
    clear hK
    clear K
    try simp only [zU, qI, qX, qY]
    refine zI (by kernel_rfl) (fun K hK => ?_)
    refine qL ?_ (fun W hW => ?_) (hK _ ?_)
    rotate_left 1
    ·obtain ⟨p0, f0⟩ := blk (HB.out _ (zX hb3 hW))
     go_simp
     try rfl
    clear hK
    clear K
    try simp only [zU, qI, qX, qY]
    refine zI (by kernel_rfl) (fun K hK => ?_)
    refine qL ?_ (fun W hW => ?_) (hK _ ?_)
    rotate_left 1
    ·skip
     go_simp
     try rfl
    clear hK
    clear K
    try simp only [zU, qI, qX, qY]
    refine zI (by kernel_rfl) (fun K hK => ?_)
    refine qM (f := ?_) (args := ?_) ?_ (fun W hW => ?_) (fun W hW => ?_) (hK _ ?_)
    rotate_left 3
    ·go_simp
     constructor <;> rfl
    ·refine (HBt.out _ (zX hb3 hW)).mono ?_
     rintro e W2 ⟨rfl, hbW⟩
     refine ⟨?_, zX hW hbW⟩
     rfl
    clear hK
    clear K
    try simp only [zU, qI, qX, qY]
    refine zI (by kernel_rfl) (fun K hK => ?_)
    refine qM (f := ?_) (args := ?_) ?_ (fun W hW => ?_) (fun W hW => ?_) (hK _ ?_)
    rotate_left 3
    ·go_simp
     constructor <;> rfl
    ·refine (HMx.out _ (zX hb3 hW)).mono ?_
     rintro e W2 ⟨rfl, hbW⟩
     refine ⟨?_, zX hW hbW⟩
     rfl
    clear hK
    clear K
    try simp only [zU, qI, qX, qY]
    refine zI (by kernel_rfl) (fun K hK => ?_)
    refine qL ?_ (fun W hW => ?_) (hK _ ?_)
    rotate_left 1
    ·skip
     go_simp
     try rfl
    clear hK
    clear K
    try simp only [zU, qI, qX, qY]
    refine zI (by kernel_rfl) (fun K hK => ?_)
    refine qL ?_ (fun W hW => ?_) (hK _ ?_)
    rotate_left 1
    ·skip
     go_simp
     try rfl
    clear hK
    clear K
    try simp only [zU, qI, qX, qY]
    refine wpQuiet_nil (fun X6 hstX6 => ?_)
    go_wp2_with fail
    go_ret
    refine ⟨?_, H1.out.trans ((zX hb3 hstX6).mono hs1)⟩
    first | rfl | simp
   ·go_enter Tryz.func19, Tryz.ntmps19
    go_wp2_with (first
     | (go_at_call 48; refine (HLq.out _ hw0).mono ?_; rintro e w2 ⟨rfl, hb2⟩; obtain ⟨q0, g0⟩ := blk (HB.out _ hb2))
     | (go_at_call 26; refine (HFd.out _ hb2).mono ?_; rintro e w3 ⟨rfl, hst3⟩; have hb3 := zX hb2 hst3; clear q0 g0))
    refine wp_region_grew w3.heap.size (by kernel_rfl) (by kernel_rfl) ?_
    refine zI (by kernel_rfl) (fun K hK => ?_)
    refine qL ?_ (fun W hW => ?_) (hK _ ?_)
    rotate_left 1
    ·skip
     go_simp
     try rfl
    clear hK
    clear K
    try simp only [zU, qI, qX, qY]
    refine zI (by kernel_rfl) (fun K hK => ?_)
    refine qL ?_ (fun W hW => ?_) (hK _ ?_)
    rotate_left 1
    ·skip
     go_simp
     try rfl
    clear hK
    clear K
    try simp only [zU, qI, qX, qY]
    refine zI (by kernel_rfl) (fun K hK => ?_)
    refine qL ?_ (fun W hW => ?_) (hK _ ?_)
    rotate_left 1
    ·skip
     go_simp
     try rfl
    clear hK
    clear K
    try simp only [zU, qI, qX, qY]
    refine zI (by kernel_rfl) (fun K hK => ?_)
    refine qL ?_ (fun W hW => ?_) (hK _ ?_)
    rotate_left 1
    ·skip
     go_simp
     try rfl
    clear hK
    clear K
    try simp only [zU, qI, qX, qY]
    refine zI (by kernel_rfl) (fun K hK => ?_)
    refine qL ?_ (fun W hW => ?_) (hK _ ?_)
    rotate_left 1
    ·skip
     go_simp
     try rfl
    clear hK
    clear K
    try simp only [zU, qI, qX, qY]
    refine zI (by kernel_rfl) (fun K hK => ?_)
    refine qL ?_ (fun W hW => ?_) (hK _ ?_)
    rotate_left 1
    ·skip
     go_simp
     try rfl
    clear hK
    clear K
    try simp only [zU, qI, qX, qY]
    refine zJ (by kernel_rfl) ?_
    try simp only [zU, qI, qX, qY]
    refine zJ (by kernel_rfl) ?_
    try simp only [zU, qI, qX, qY]
    refine zJ (by kernel_rfl) ?_
    try simp only [zU, qI, qX, qY]
    refine zJ (by kernel_rfl) ?_
    try simp only [zU, qI, qX, qY]
    refine zI (by kernel_rfl) (fun K hK => ?_)
    refine qL ?_ (fun W hW => ?_) (hK _ ?_)
    rotate_left 1
    ·skip
     go_simp
     try rfl
    clear hK
    clear K
    try simp only [zU, qI, qX, qY]
    refine zI (by kernel_rfl) (fun K hK => ?_)
    refine qL ?_ (fun W hW => ?_) (hK _ ?_)
    rotate_left 1
    ·skip
     go_simp
     try rfl
    clear hK
    clear K
    try simp only [zU, qI, qX, qY]
    refine wpQuiet_nil (fun X6 hstX6 => ?_)
    go_wp2_with fail
    go_ret
    refine ⟨?_, H1.out.trans ((zX hb3 hstX6).mono hs1)⟩
    first | rfl | simp
   ·go_enter Tryz.func19, Tryz.ntmps19
    go_wp2_with (first
     | (go_at_call 48; refine (HLq.out _ hw0).mono ?_; rintro e w2 ⟨rfl, hb2⟩; obtain ⟨q0, g0⟩ := blk (HB.out _ hb2))
     | (go_at_call 26; refine (HFd.out _ hb2).mono ?_; rintro e w3 ⟨rfl, hst3⟩; have hb3 := zX hb2 hst3; clear q0 g0))
    refine wp_region_grew w3.heap.size (by kernel_rfl) (by kernel_rfl) ?_
    refine zI (by kernel_rfl) (fun K hK => ?_)
    refine qL ?_ (fun W hW => ?_) (hK _ ?_)
    rotate_left 1
    ·skip
     go_simp
     try rfl
    clear hK
    clear K
    try simp only [zU, qI, qX, qY]
    refine zI (by kernel_rfl) (fun K hK => ?_)
    refine qL ?_ (fun W hW => ?_) (hK _ ?_)
    rotate_left 1
    ·skip
     go_simp
     try rfl
    clear hK
    clear K
    try simp only [zU, qI, qX, qY]
    refine zI (by kernel_rfl) (fun K hK => ?_)
    refine qL ?_ (fun W hW => ?_) (hK _ ?_)
    rotate_left 1
    ·skip
     go_simp
     try rfl
    clear hK
    clear K
    try simp only [zU, qI, qX, qY]
    refine zI (by kernel_rfl) (fun K hK => ?_)
    refine qL ?_ (fun W hW => ?_) (hK _ ?_)
    rotate_left 1
    ·skip
     go_simp
     try rfl
    clear hK
    clear K
    try simp only [zU, qI, qX, qY]
    refine zI (by kernel_rfl) (fun K hK => ?_)
    refine qL ?_ (fun W hW => ?_) (hK _ ?_)
    rotate_left 1
    ·skip
     go_simp
     try rfl
    clear hK
    clear K
    try simp only [zU, qI, qX, qY]
    refine zI (by kernel_rfl) (fun K hK => ?_)
    refine qL ?_ (fun W hW => ?_) (hK _ ?_)
    rotate_left 1
    ·skip
     go_simp
     try rfl
    clear hK
    clear K
    try simp only [zU, qI, qX, qY]
    refine zI (by kernel_rfl) (fun K hK => ?_)
    refine qL ?_ (fun W hW => ?_) (hK _ ?_)
    rotate_left 1
    ·obtain ⟨p0, f0⟩ := blk (HB.out _ (zX hb3 hW))
     go_simp
     try rfl
    clear hK
    clear K
    try simp only [zU, qI, qX, qY]
    refine zI (by kernel_rfl) (fun K hK => ?_)
    refine qL ?_ (fun W hW => ?_) (hK _ ?_)
    rotate_left 1
    ·skip
     go_simp
     try rfl
    clear hK
    clear K
    try simp only [zU, qI, qX, qY]
    refine zI (by kernel_rfl) (fun K hK => ?_)
    refine qM (f := ?_) (args := ?_) ?_ (fun W hW => ?_) (fun W hW => ?_) (hK _ ?_)
    rotate_left 3
    ·go_simp
     constructor <;> rfl
    ·refine (HBt.out _ (zX hb3 hW)).mono ?_
     rintro e W2 ⟨rfl, hbW⟩
     refine ⟨?_, zX hW hbW⟩
     rfl
    clear hK
    clear K
    try simp only [zU, qI, qX, qY]
    refine zI (by kernel_rfl) (fun K hK => ?_)
    refine qM (f := ?_) (args := ?_) ?_ (fun W hW => ?_) (fun W hW => ?_) (hK _ ?_)
    rotate_left 3
    ·go_simp
     constructor <;> rfl
    ·refine (HMx.out _ (zX hb3 hW)).mono ?_
     rintro e W2 ⟨rfl, hbW⟩
     refine ⟨?_, zX hW hbW⟩
     rfl
    clear hK
    clear K
    try simp only [zU, qI, qX, qY]
    refine zI (by kernel_rfl) (fun K hK => ?_)
    refine qL ?_ (fun W hW => ?_) (hK _ ?_)
    rotate_left 1
    ·skip
     go_simp
     try rfl
    clear hK
    clear K
    try simp only [zU, qI, qX, qY]
    refine zI (by kernel_rfl) (fun K hK => ?_)
    refine qL ?_ (fun W hW => ?_) (hK _ ?_)
    rotate_left 1
    ·skip
     go_simp
     try rfl
    clear hK
    clear K
    try simp only [zU, qI, qX, qY]
    refine wpQuiet_nil (fun X6 hstX6 => ?_)
    go_wp2_with fail
    go_ret
    refine ⟨?_, H1.out.trans ((zX hb3 hstX6).mono hs1)⟩
    first | rfl | simp
end Go.Proofs.YtcliojeoindceaaGreatDoor
namespace Go.Proofs.Qw
open Go.RowKit Go.Proofs.YtcliojeoindceaaGreatDoor
def exL (b c : Int) (h k : List UInt8) : Doc := [⟨0, [], 0, [⟨97, b, h⟩, ⟨98, c, k⟩]⟩]
def exA : St := ⟨exL 0 1 [] [], ⟨0, 0⟩, ⟨0, 2⟩, 0, 0⟩
def exB : St := ⟨exL 1 1 [] [], ⟨0, 0⟩, ⟨0, 2⟩, 0, 0⟩
end Go.Proofs.Qw
namespace Go.Proofs.YtcliojeoindceaaGreatDoor
open Go.RowKit
open Go.Proofs.Qw
theorem on1f {w : World} {B : Nat} {cs : Array Value} {t : TypeId} (h : w.heap[B]? = some (.cells cs t)) : ∀ X k, (w.alloc X).frozen? ⟨B, k, none⟩ = false := fun X _ => frozen_of_heap (heap_old _ X h)
theorem exL_small (b c : Int) {h k : List UInt8} (h1 : h.length ≤ 10) (h2 : k.length ≤ 10) : Small (exL b c h k) ∧ Fits (exL b c h k) := by
 refine ⟨⟨by simp [sizeD, exL], by simp [exL], fun l hl x hx => ?_⟩, by simp [exL], fun l hl => ?_⟩
 ·simp only [exL, List.mem_singleton] at hl
  subst hl
  simp only [List.mem_cons, List.mem_nil_iff, or_false] at hx
  rcases hx with rfl | rfl
  ·show h.length ≤ _; omega
  ·show k.length ≤ _; omega
 ·simp only [exL, List.mem_singleton] at hl
  subst hl
  simp
theorem exL_at {w : World} {S : Nat → Prop} {v : Value} {b c : Int} {h k : List UInt8} (hv : DocR true w S v (exL b c h k)) :
  ∃ p o n la lc p2 o2 n2, v = .slice (some ⟨p, o, none⟩) 1 n ∧ p < w.heap.size ∧ p2 < w.heap.size ∧ w.cell? ⟨p, o + 1, none⟩ = some (.slice la 0 lc) ∧ w.cell? ⟨p, o + 3, none⟩ = some (.slice (some ⟨p2, o2, none⟩) 2 n2) ∧ w.cell? ⟨p2, o2 + 1, none⟩ = some (.int .i64 b) ∧ w.cell? ⟨p2, o2 + 3 + 1, none⟩ = some (.int .i64 c) ∧ n ≤ maxLen ∧ n2 ≤ maxLen ∧ 1 ≤ n ∧ 2 ≤ n2 := by
 obtain ⟨p, o, n, la, lc, ca, cc, rfl, hc, hm, hA, _, hC, _⟩ := docOwn_at hv (i := 0) (l := ⟨0, [], 0, [⟨97, b, h⟩, ⟨98, c, k⟩]⟩) rfl
 rw [Nat.zero_mul, Nat.add_zero] at hA
 obtain ⟨hlt, _, a1, _, a3, _, _⟩ := hA
 obtain ⟨a, n2, he, hn2, hm2, hx⟩ := cels_shape (SliceR.read (fun _ _ h => h) hC)
 cases he
 obtain ⟨p2, o2, rfl, hz2, _, c1, _⟩ := hx 0 _ rfl
 obtain ⟨p3, o3, he3, _, _, d1, _⟩ := hx 1 _ rfl
 cases he3
 rw [Nat.zero_mul, Nat.add_zero] at c1
 rw [Nat.one_mul] at d1
 exact ⟨p, o, n, la, lc, p2, o2, _, rfl, hlt, hz2, a1, a3, c1, d1, hm, hm2, hc, hn2⟩
end Go.Proofs.YtcliojeoindceaaGreatDoor
namespace Go.Proofs.Qw
open Go.RowKit Go.Proofs.YtcliojeoindceaaGreatDoor
open _root_.List renaming getElem?_eq_some_iff → zK
theorem and_nat (x : Int) : ∃ n : Nat, n ≤ 65535 ∧ Go.bits .and .i64 x 65535 = (n : Int) := by
 refine ⟨(BitVec.ofInt 64 x).toNat &&& 65535, Nat.and_le_right, ?_⟩
 have h : (BitVec.ofInt 64 x).toNat &&& 65535 ≤ 65535 := Nat.and_le_right
 show IntKind.i64.wrap (((BitVec.ofInt 64 x &&& BitVec.ofInt 64 65535).toNat : Nat) : Int) = _
 rw [BitVec.toNat_and, show (BitVec.ofInt 64 65535).toNat = 65535 from rfl]
 exact IntWalk.i64_in _ (by omega)
theorem cmd_cells {t : TypeId} {own : Bool} {w : World} {S : Nat → Prop} {v : Value} {l : List Cmd} (h : SliceR t 3 (rdOf encCmd) own w S v l) :
  ∃ a c, v = .slice a l.length c ∧ l.length ≤ c ∧ ∀ i x, l[i]? = some x → ∃ b o, a = some ⟨b, o, none⟩ ∧ b < w.heap.size ∧ w.cell? ⟨b, o + i * 3, none⟩ = some (.string ⟨x.name.toArray⟩) ∧ w.cell? ⟨b, o + i * 3 + 1, none⟩ = some (.string ⟨x.input.toArray⟩) ∧ w.cell? ⟨b, o + i * 3 + 2, none⟩ = some (.int .i64 x.data) := by
 obtain ⟨a, c, rfl, hc, _, hx⟩ := h.shape
 refine ⟨a, c, rfl, hc, fun i x hi => ?_⟩
 obtain ⟨b, o, vs, rfl, hb, _, hl, hR, hcell⟩ := hx i x hi
 have e : vs = encCmd x := hR
 subst e
 exact ⟨b, o, rfl, hb, hcell 0 _ rfl, hcell 1 _ rfl, hcell 2 _ rfl⟩
theorem ne_bytes {a b : List UInt8} (h : a ≠ b) : ((⟨a.toArray⟩ : ByteArray) == ⟨b.toArray⟩) = false := by
 cases h2 : ((⟨a.toArray⟩ : ByteArray) == ⟨b.toArray⟩)
 ·rfl
 ·exfalso
  have e := (MapKept.bytes_beq _ _).1 h2
  exact h (by have := congrArg (fun b : ByteArray => b.data.toList) e; simpa using this)
theorem cmd_small {k : Nat} {c : Cmd} (h : cmds[k]? = some c) : c.name.length ≤ 30 := by
 have hk : k < 17 := (zK.1 h).1
 have H : ∀ k : Fin 17, (cmds[k.val]'k.isLt).name.length ≤ 30 := by decide +kernel
 obtain ⟨_, h2⟩ := zK.1 h
 rw [← h2]
 exact H ⟨k, hk⟩
end Go.Proofs.Qw
