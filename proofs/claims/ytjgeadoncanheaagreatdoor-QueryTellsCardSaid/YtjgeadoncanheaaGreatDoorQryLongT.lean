/- Parts of the proof. -/
import Derived.Test.YtjgeadoncanheaaGreatDoorRefAroundT
import Derived.Test.YtjgeadoncanheaaGreatDoorRef25TT
import Derived.Test.YtjgeadoncanheaaGreatDoorDocDeleteT
import Derived.Test.YtjgeadoncanheaaGreatDoorPartBaseT
set_option linter.unusedVariables false
set_option linter.unusedSimpArgs false
set_option maxHeartbeats 8000000
namespace Go.Proofs.YtjgeadoncanheaaGreatDoor
open Go.RowKit
open Go.Proofs.Qw
attribute [local go_sem] Oper.semAt_some
open _root_.Go.Lib renaming hid → zA
open _root_.Go.RowKit.Below renaming refl → zE
open _root_.Go.AllReadyH renaming cons → zN, nil → zO
open _root_.Go renaming wpAnyH_take → zP, wpAnyH_ready → zQ
open _root_.Int renaming natCast_nonneg → zR
open _root_.Go.IntWalk renaming i64_in → zT
open _root_.Go.Act renaming put → zU
open _root_.Go.Proofs.Tryz renaming prog → zV
open _root_.Go.Proofs.YtjgeadoncanheaaGreatDoor renaming jH → zW, jS → qD
open _root_.Go.Proofs.Qw renaming jY → zZ, xB → qK
set_option maxRecDepth 100000 in
theorem zHt (v : Value) (s : St) (name : ByteArray) (w : World) (S : Nat → Prop) (h : jC w S v s.lines) (hs : Small s.lines) (hf : Fits s.lines) (ho : -9223372036854775808 ≤ s.on ∧ s.on ≤ 9223372036854775807) (hof : -9223372036854775808 ≤ s.off ∧ s.off ≤ 9223372036854775807) (hn : name.size ≤ 1000000) :
  Calls zV 8 #[stV v s, .string name] w fun e w' => e = .returned (.bool (vB s name.data.toList)) ∧ Below w.heap.size w w' := by
 obtain ⟨W1, hW1, hB, hz, k0⟩ := xC w v s;have HB : Hid (∀ W, Below W1.heap.size W1 W → W.heap[w.heap.size]? = some (.cells #[v, .int .i64 s.anc.line, .int .i64 s.anc.col, .int .i64 s.foc.line, .int .i64 s.foc.col, .int .i64 s.on, .int .i64 s.off] 26)) := zA fun W hW => jG hW k0;have hs1 := hB.size;have H1 := zA hB;have hw0 : Below W1.heap.size W1 W1 := zE _ _;have HV : Hid (∀ W, Below W1.heap.size W1 W → jC W S v s.lines) := zA fun W hW => h.below (zZ _) (hB.trans (hW.mono hs1));have HFd : Hid (∀ W, Below W1.heap.size W1 W → Calls zV 16 #[.string name] W fun e w' => e = .returned (.tuple #[.int .i64 (kM name.data.toList), .bool (jT name.data.toList).isSome]) ∧ Below W.heap.size W w') := zA fun W _ => zDh name W qE;have HBi : Hid (∀ (k : Int) W, Below W1.heap.size W1 W → Calls zV 24 #[stV v s, .int .i64 k] W fun e w' => e = .returned (.bool (hasS s k)) ∧ Below W.heap.size W w') := zA fun k W hW => zIn v s k W S (HV.out W hW) hs hf ho hof;have HLi : Hid (∀ (k : Int) W, Below W1.heap.size W1 W → Calls zV 25 #[stV v s, .int .i64 k] W fun e w' => e = .returned (.tuple #[.bool (kF k s).1, .bool (kF k s).2]) ∧ Below W.heap.size W w') := zA fun k W hW => zEA v s k W S (HV.out W hW) hs ho hof
 have HHd0 : Hid (∀ va vc W, v = .slice va s.lines.length vc → Below W1.heap.size W1 W → (fun w' => w'.cell? ⟨w.heap.size, 0, none⟩ = some (.slice va s.lines.length vc) ∧ w'.cell? ⟨w.heap.size, 1, none⟩ = some (.int .i64 s.anc.line) ∧ w'.cell? ⟨w.heap.size, 2, none⟩ = some (.int .i64 s.anc.col) ∧ w'.cell? ⟨w.heap.size, 3, none⟩ = some (.int .i64 s.foc.line) ∧ w'.cell? ⟨w.heap.size, 4, none⟩ = some (.int .i64 s.foc.col) ∧ w'.cell? ⟨w.heap.size, 5, none⟩ = some (.int .i64 s.on) ∧ w'.cell? ⟨w.heap.size, 6, none⟩ = some (.int .i64 s.off)) W) := zA fun va vc W e hW => by
  subst e;have q := (blk (HB.out W hW)).1;exact ⟨q 0, q 1, q 2, q 3, q 4, q 5, q 6⟩
 obtain ⟨R, hR⟩ : ∃ R, jT name.data.toList = R := ⟨_, rfl⟩;have HFN := zA (show kM name.data.toList = R.getD 0 by unfold kM; rw [hR]);have HLT : Hid (∀ k, R = some k → k < 17) := zA fun k e => zAa (hR.trans e);have HR0 := zA hR;rw [hR, HFN.out] at HFd;obtain ⟨p0, f0⟩ := blk k0;obtain ⟨va, vc, rfl⟩ := h.slice;have HHd : Hid (∀ W, Below W1.heap.size W1 W → (fun w' => w'.cell? ⟨w.heap.size, 0, none⟩ = some (.slice va s.lines.length vc) ∧ w'.cell? ⟨w.heap.size, 1, none⟩ = some (.int .i64 s.anc.line) ∧ w'.cell? ⟨w.heap.size, 2, none⟩ = some (.int .i64 s.anc.col) ∧ w'.cell? ⟨w.heap.size, 3, none⟩ = some (.int .i64 s.foc.line) ∧ w'.cell? ⟨w.heap.size, 4, none⟩ = some (.int .i64 s.foc.col) ∧ w'.cell? ⟨w.heap.size, 5, none⟩ = some (.int .i64 s.on) ∧ w'.cell? ⟨w.heap.size, 6, none⟩ = some (.int .i64 s.off)) W) := zA fun W hW => HHd0.out va vc W rfl hW;clear h hs hf ho hof hn k0 hB hR HHd0;cases R with
 | none =>
  have HR : Hid (vB s name.data.toList = false) := zA (by unfold vB; rw [HR0.out]);have HFd : Hid (∀ W, Below W1.heap.size W1 W → Calls zV 16 #[.string name] W fun e w' => e = .returned (.tuple #[.int .i64 0, .bool false]) ∧ Below W.heap.size W w') := zA HFd.out;rw [HR.out];clear HR0 HLT HFN HR;go_enter Tryz.func8, Tryz.ntmps8
  go_wp2_with (first
   | (go_at_call 16; refine (HFd.out _ hw0).mono ?_; rintro e w2 ⟨rfl, hb2⟩; clear p0 f0; obtain ⟨p0, f0⟩ := blk (HB.out _ hb2)))
  go_ret;exact ⟨by first | rfl | trivial, H1.out.trans (hb2.mono hs1)⟩
 | some k =>
  have hk := HLT.out k rfl;have HFd : Hid (∀ W, Below W1.heap.size W1 W → Calls zV 16 #[.string name] W fun e w' => e = .returned (.tuple #[.int .i64 (k : Int), .bool true]) ∧ Below W.heap.size W w') := zA HFd.out;have hk0 : (0 : Int) ≤ (k : Int) := zR _
  by_cases h58 : 5 ≤ k ∧ k ≤ 8
  ·have HR : Hid (vB s name.data.toList = hasS s (bitQ k)) := zA (by unfold vB; rw [HR0.out]; simp only; rw [if_neg qE])
   have hkb : k = 5 ∨ k = 6 ∨ k = 7 ∨ k = 8 := by omega
   rw [HR.out];clear HR0 HLT HFN HR h58 hk hk0;rcases hkb with rfl | rfl | rfl | rfl
   ·have HBk : Hid (∀ W, Below W1.heap.size W1 W → Calls zV 24 #[stV (.slice va s.lines.length vc) s, .int .i64 1] W fun e w' => e = .returned (.bool (hasS s (bitQ 5))) ∧ Below W.heap.size W w') := zA (HBi.out 1)
    obtain ⟨res, hres⟩ : ∃ r, hasS s (bitQ 5) = r := ⟨_, rfl⟩;rw [hres] at HBk ⊢;clear hres HBi;go_enter Tryz.func8, Tryz.ntmps8;go_upto_region 3 with (go_at_call 16; refine (HFd.out _ hw0).mono ?_; rintro e w2 ⟨rfl, hb2⟩; clear p0 f0; obtain ⟨p0, f0⟩ := blk (HB.out _ hb2))
    have ej : IntKind.i64.wrap 0 = 0 := rfl;refine wp_region_noPanic ?_;refine wp_region_held_drew (S := (fun w' => w'.cell? ⟨w.heap.size, 0, none⟩ = some (.slice va s.lines.length vc) ∧ w'.cell? ⟨w.heap.size, 1, none⟩ = some (.int .i64 s.anc.line) ∧ w'.cell? ⟨w.heap.size, 2, none⟩ = some (.int .i64 s.anc.col) ∧ w'.cell? ⟨w.heap.size, 3, none⟩ = some (.int .i64 s.foc.line) ∧ w'.cell? ⟨w.heap.size, 4, none⟩ = some (.int .i64 s.foc.col) ∧ w'.cell? ⟨w.heap.size, 5, none⟩ = some (.int .i64 s.on) ∧ w'.cell? ⟨w.heap.size, 6, none⟩ = some (.int .i64 s.off))) qC (HHd.out _ hb2.drew) (fun hHeld => ?_);refine zP (i := 0) (v := ?_) vD qC qC qC (fun _ _ _ h => h) (Or.inl ⟨by rfl, ?_⟩) qW ?_;rotate_left 1
    ·intro w hSw; (try dsimp only at hSw); go_simp; (first | done | with_reducible rfl)
    try simp only [zU, qI, qX, qY]
    refine zP (i := 2) (v := ?_) qU qC qC qC (fun _ _ _ h => h) (Or.inl ⟨by rfl, ?_⟩) qW ?_;rotate_left 1
    ·intro w hSw; (try dsimp only at hSw); go_simp; (first | done | with_reducible rfl)
    try simp only [zU, qI, qX, qY]
    refine zP (i := 3) (v := ?_) qU qC qC qC (fun _ _ _ h => h) (Or.inl ⟨by rfl, ?_⟩) qW ?_;rotate_left 1
    ·intro w hSw; (try dsimp only at hSw); go_simp; (first | done | with_reducible rfl)
    try simp only [zU, qI, qX, qY]
    refine zQ (rs := [1]) qC qT ?_;refine zN qU (fun K hK => ?_) zO;go_simp;obtain ⟨X1, hX1⟩ : ∃ X, (w2.alloc (.cells #[.int .i64 1, .int .i64 2, .int .i64 4, .int .i64 8] 3)).drew = X := ⟨_, rfl⟩;rw [hX1];have hc1 : Below W1.heap.size W1 X1 := hX1 ▸ (xK hb2 _).drew;have c5 : X1.cell? ⟨w2.heap.size, 0, none⟩ = some (.int .i64 1) := by rw [← hX1]; exact qD (jF w2 _ rfl)
    clear hX1;refine hK.out _ _ (HHd.out _ hc1) (fun hHeld1 => ?_);clear hK K hHeld;try simp only [zU, qI, qX, qY]
    refine zP (i := 4) (v := ?_) qU qC qC qC (fun _ _ _ h => h) (Or.inl ⟨by rfl, ?_⟩) qW ?_;rotate_left 1
    ·intro w hSw; (try dsimp only at hSw); go_simp; (first | done | with_reducible rfl)
    try simp only [zU, qI, qX, qY]
    refine zQ (rs := [5]) qC qT ?_;refine zN qU (fun K hK => ?_) zO;go_simp;refine hK.out _ _ (HHd.out _ hc1) (fun hHeld2 => ?_);clear hK K hHeld1;try simp only [zU, qI, qX, qY]
    refine zQ (rs := [6]) qC qT ?_;refine zN qU (fun K hK => ?_) zO;go_simp;refine (HBk.out _ hc1).mono ?_;rintro e w3 ⟨rfl, hst3⟩;have hb3 := zW hc1 hst3;refine hK.out _ _ (HHd.out _ hb3) (fun hHeld3 => ?_);clear hK K hHeld2 c5;try simp only [zU, qI, qX, qY]
    refine zP (i := 7) (v := ?_) qU qC qC qC (fun _ _ _ h => h) (Or.inl ⟨by rfl, ?_⟩) qW ?_;rotate_left 1
    ·intro w hSw; (try dsimp only at hSw); go_simp; (first | done | with_reducible rfl)
    try simp only [zU, qI, qX, qY]
    refine wpAnyH_done qC ?_ _;refine NoPanic.normal ?_;go_wp2_with fail;go_ret;exact ⟨by first | rfl | trivial, H1.out.trans (hb3.mono hs1)⟩
   ·have HBk : Hid (∀ W, Below W1.heap.size W1 W → Calls zV 24 #[stV (.slice va s.lines.length vc) s, .int .i64 2] W fun e w' => e = .returned (.bool (hasS s (bitQ 6))) ∧ Below W.heap.size W w') := zA (HBi.out 2)
    obtain ⟨res, hres⟩ : ∃ r, hasS s (bitQ 6) = r := ⟨_, rfl⟩;rw [hres] at HBk ⊢;clear hres HBi;go_enter Tryz.func8, Tryz.ntmps8;go_upto_region 3 with (go_at_call 16; refine (HFd.out _ hw0).mono ?_; rintro e w2 ⟨rfl, hb2⟩; clear p0 f0; obtain ⟨p0, f0⟩ := blk (HB.out _ hb2))
    have ej : IntKind.i64.wrap 1 = 1 := rfl;refine wp_region_noPanic ?_;refine wp_region_held_drew (S := (fun w' => w'.cell? ⟨w.heap.size, 0, none⟩ = some (.slice va s.lines.length vc) ∧ w'.cell? ⟨w.heap.size, 1, none⟩ = some (.int .i64 s.anc.line) ∧ w'.cell? ⟨w.heap.size, 2, none⟩ = some (.int .i64 s.anc.col) ∧ w'.cell? ⟨w.heap.size, 3, none⟩ = some (.int .i64 s.foc.line) ∧ w'.cell? ⟨w.heap.size, 4, none⟩ = some (.int .i64 s.foc.col) ∧ w'.cell? ⟨w.heap.size, 5, none⟩ = some (.int .i64 s.on) ∧ w'.cell? ⟨w.heap.size, 6, none⟩ = some (.int .i64 s.off))) qC (HHd.out _ hb2.drew) (fun hHeld => ?_);refine zP (i := 0) (v := ?_) vD qC qC qC (fun _ _ _ h => h) (Or.inl ⟨by rfl, ?_⟩) qW ?_;rotate_left 1
    ·intro w hSw; (try dsimp only at hSw); go_simp; (first | done | with_reducible rfl)
    try simp only [zU, qI, qX, qY]
    refine zP (i := 2) (v := ?_) qU qC qC qC (fun _ _ _ h => h) (Or.inl ⟨by rfl, ?_⟩) qW ?_;rotate_left 1
    ·intro w hSw; (try dsimp only at hSw); go_simp; (first | done | with_reducible rfl)
    try simp only [zU, qI, qX, qY]
    refine zP (i := 3) (v := ?_) qU qC qC qC (fun _ _ _ h => h) (Or.inl ⟨by rfl, ?_⟩) qW ?_;rotate_left 1
    ·intro w hSw; (try dsimp only at hSw); go_simp; (first | done | with_reducible rfl)
    try simp only [zU, qI, qX, qY]
    refine zQ (rs := [1]) qC qT ?_;refine zN qU (fun K hK => ?_) zO;go_simp;obtain ⟨X1, hX1⟩ : ∃ X, (w2.alloc (.cells #[.int .i64 1, .int .i64 2, .int .i64 4, .int .i64 8] 3)).drew = X := ⟨_, rfl⟩;rw [hX1];have hc1 : Below W1.heap.size W1 X1 := hX1 ▸ (xK hb2 _).drew;have c5 : X1.cell? ⟨w2.heap.size, 1, none⟩ = some (.int .i64 2) := by rw [← hX1]; exact qD (jF w2 _ rfl)
    clear hX1;refine hK.out _ _ (HHd.out _ hc1) (fun hHeld1 => ?_);clear hK K hHeld;try simp only [zU, qI, qX, qY]
    refine zP (i := 4) (v := ?_) qU qC qC qC (fun _ _ _ h => h) (Or.inl ⟨by rfl, ?_⟩) qW ?_;rotate_left 1
    ·intro w hSw; (try dsimp only at hSw); go_simp; (first | done | with_reducible rfl)
    try simp only [zU, qI, qX, qY]
    refine zQ (rs := [5]) qC qT ?_;refine zN qU (fun K hK => ?_) zO;go_simp;refine hK.out _ _ (HHd.out _ hc1) (fun hHeld2 => ?_);clear hK K hHeld1;try simp only [zU, qI, qX, qY]
    refine zQ (rs := [6]) qC qT ?_;refine zN qU (fun K hK => ?_) zO;go_simp;refine (HBk.out _ hc1).mono ?_;rintro e w3 ⟨rfl, hst3⟩;have hb3 := zW hc1 hst3;refine hK.out _ _ (HHd.out _ hb3) (fun hHeld3 => ?_);clear hK K hHeld2 c5;try simp only [zU, qI, qX, qY]
    refine zP (i := 7) (v := ?_) qU qC qC qC (fun _ _ _ h => h) (Or.inl ⟨by rfl, ?_⟩) qW ?_;rotate_left 1
    ·intro w hSw; (try dsimp only at hSw); go_simp; (first | done | with_reducible rfl)
    try simp only [zU, qI, qX, qY]
    refine wpAnyH_done qC ?_ _;refine NoPanic.normal ?_;go_wp2_with fail;go_ret;exact ⟨by first | rfl | trivial, H1.out.trans (hb3.mono hs1)⟩
   ·have HBk : Hid (∀ W, Below W1.heap.size W1 W → Calls zV 24 #[stV (.slice va s.lines.length vc) s, .int .i64 4] W fun e w' => e = .returned (.bool (hasS s (bitQ 7))) ∧ Below W.heap.size W w') := zA (HBi.out 4)
    obtain ⟨res, hres⟩ : ∃ r, hasS s (bitQ 7) = r := ⟨_, rfl⟩;rw [hres] at HBk ⊢;clear hres HBi;go_enter Tryz.func8, Tryz.ntmps8;go_upto_region 3 with (go_at_call 16; refine (HFd.out _ hw0).mono ?_; rintro e w2 ⟨rfl, hb2⟩; clear p0 f0; obtain ⟨p0, f0⟩ := blk (HB.out _ hb2))
    have ej : IntKind.i64.wrap 2 = 2 := rfl;refine wp_region_noPanic ?_;refine wp_region_held_drew (S := (fun w' => w'.cell? ⟨w.heap.size, 0, none⟩ = some (.slice va s.lines.length vc) ∧ w'.cell? ⟨w.heap.size, 1, none⟩ = some (.int .i64 s.anc.line) ∧ w'.cell? ⟨w.heap.size, 2, none⟩ = some (.int .i64 s.anc.col) ∧ w'.cell? ⟨w.heap.size, 3, none⟩ = some (.int .i64 s.foc.line) ∧ w'.cell? ⟨w.heap.size, 4, none⟩ = some (.int .i64 s.foc.col) ∧ w'.cell? ⟨w.heap.size, 5, none⟩ = some (.int .i64 s.on) ∧ w'.cell? ⟨w.heap.size, 6, none⟩ = some (.int .i64 s.off))) qC (HHd.out _ hb2.drew) (fun hHeld => ?_);refine zP (i := 0) (v := ?_) vD qC qC qC (fun _ _ _ h => h) (Or.inl ⟨by rfl, ?_⟩) qW ?_;rotate_left 1
    ·intro w hSw; (try dsimp only at hSw); go_simp; (first | done | with_reducible rfl)
    try simp only [zU, qI, qX, qY]
    refine zP (i := 2) (v := ?_) qU qC qC qC (fun _ _ _ h => h) (Or.inl ⟨by rfl, ?_⟩) qW ?_;rotate_left 1
    ·intro w hSw; (try dsimp only at hSw); go_simp; (first | done | with_reducible rfl)
    try simp only [zU, qI, qX, qY]
    refine zP (i := 3) (v := ?_) qU qC qC qC (fun _ _ _ h => h) (Or.inl ⟨by rfl, ?_⟩) qW ?_;rotate_left 1
    ·intro w hSw; (try dsimp only at hSw); go_simp; (first | done | with_reducible rfl)
    try simp only [zU, qI, qX, qY]
    refine zQ (rs := [1]) qC qT ?_;refine zN qU (fun K hK => ?_) zO;go_simp;obtain ⟨X1, hX1⟩ : ∃ X, (w2.alloc (.cells #[.int .i64 1, .int .i64 2, .int .i64 4, .int .i64 8] 3)).drew = X := ⟨_, rfl⟩;rw [hX1];have hc1 : Below W1.heap.size W1 X1 := hX1 ▸ (xK hb2 _).drew;have c5 : X1.cell? ⟨w2.heap.size, 2, none⟩ = some (.int .i64 4) := by rw [← hX1]; exact qD (jF w2 _ rfl)
    clear hX1;refine hK.out _ _ (HHd.out _ hc1) (fun hHeld1 => ?_);clear hK K hHeld;try simp only [zU, qI, qX, qY]
    refine zP (i := 4) (v := ?_) qU qC qC qC (fun _ _ _ h => h) (Or.inl ⟨by rfl, ?_⟩) qW ?_;rotate_left 1
    ·intro w hSw; (try dsimp only at hSw); go_simp; (first | done | with_reducible rfl)
    try simp only [zU, qI, qX, qY]
    refine zQ (rs := [5]) qC qT ?_;refine zN qU (fun K hK => ?_) zO;go_simp;refine hK.out _ _ (HHd.out _ hc1) (fun hHeld2 => ?_);clear hK K hHeld1;try simp only [zU, qI, qX, qY]
    refine zQ (rs := [6]) qC qT ?_;refine zN qU (fun K hK => ?_) zO;go_simp;refine (HBk.out _ hc1).mono ?_;rintro e w3 ⟨rfl, hst3⟩;have hb3 := zW hc1 hst3;refine hK.out _ _ (HHd.out _ hb3) (fun hHeld3 => ?_);clear hK K hHeld2 c5;try simp only [zU, qI, qX, qY]
    refine zP (i := 7) (v := ?_) qU qC qC qC (fun _ _ _ h => h) (Or.inl ⟨by rfl, ?_⟩) qW ?_;rotate_left 1
    ·intro w hSw; (try dsimp only at hSw); go_simp; (first | done | with_reducible rfl)
    try simp only [zU, qI, qX, qY]
    refine wpAnyH_done qC ?_ _;refine NoPanic.normal ?_;go_wp2_with fail;go_ret;exact ⟨by first | rfl | trivial, H1.out.trans (hb3.mono hs1)⟩
   ·have HBk : Hid (∀ W, Below W1.heap.size W1 W → Calls zV 24 #[stV (.slice va s.lines.length vc) s, .int .i64 8] W fun e w' => e = .returned (.bool (hasS s (bitQ 8))) ∧ Below W.heap.size W w') := zA (HBi.out 8)
    obtain ⟨res, hres⟩ : ∃ r, hasS s (bitQ 8) = r := ⟨_, rfl⟩;rw [hres] at HBk ⊢;clear hres HBi;go_enter Tryz.func8, Tryz.ntmps8;go_upto_region 3 with (go_at_call 16; refine (HFd.out _ hw0).mono ?_; rintro e w2 ⟨rfl, hb2⟩; clear p0 f0; obtain ⟨p0, f0⟩ := blk (HB.out _ hb2))
    have ej : IntKind.i64.wrap 3 = 3 := rfl;refine wp_region_noPanic ?_;refine wp_region_held_drew (S := (fun w' => w'.cell? ⟨w.heap.size, 0, none⟩ = some (.slice va s.lines.length vc) ∧ w'.cell? ⟨w.heap.size, 1, none⟩ = some (.int .i64 s.anc.line) ∧ w'.cell? ⟨w.heap.size, 2, none⟩ = some (.int .i64 s.anc.col) ∧ w'.cell? ⟨w.heap.size, 3, none⟩ = some (.int .i64 s.foc.line) ∧ w'.cell? ⟨w.heap.size, 4, none⟩ = some (.int .i64 s.foc.col) ∧ w'.cell? ⟨w.heap.size, 5, none⟩ = some (.int .i64 s.on) ∧ w'.cell? ⟨w.heap.size, 6, none⟩ = some (.int .i64 s.off))) qC (HHd.out _ hb2.drew) (fun hHeld => ?_);refine zP (i := 0) (v := ?_) vD qC qC qC (fun _ _ _ h => h) (Or.inl ⟨by rfl, ?_⟩) qW ?_;rotate_left 1
    ·intro w hSw; (try dsimp only at hSw); go_simp; (first | done | with_reducible rfl)
    try simp only [zU, qI, qX, qY]
    refine zP (i := 2) (v := ?_) qU qC qC qC (fun _ _ _ h => h) (Or.inl ⟨by rfl, ?_⟩) qW ?_;rotate_left 1
    ·intro w hSw; (try dsimp only at hSw); go_simp; (first | done | with_reducible rfl)
    try simp only [zU, qI, qX, qY]
    refine zP (i := 3) (v := ?_) qU qC qC qC (fun _ _ _ h => h) (Or.inl ⟨by rfl, ?_⟩) qW ?_;rotate_left 1
    ·intro w hSw; (try dsimp only at hSw); go_simp; (first | done | with_reducible rfl)
    try simp only [zU, qI, qX, qY]
    refine zQ (rs := [1]) qC qT ?_;refine zN qU (fun K hK => ?_) zO;go_simp;obtain ⟨X1, hX1⟩ : ∃ X, (w2.alloc (.cells #[.int .i64 1, .int .i64 2, .int .i64 4, .int .i64 8] 3)).drew = X := ⟨_, rfl⟩;rw [hX1];have hc1 : Below W1.heap.size W1 X1 := hX1 ▸ (xK hb2 _).drew;have c5 : X1.cell? ⟨w2.heap.size, 3, none⟩ = some (.int .i64 8) := by rw [← hX1]; exact qD (jF w2 _ rfl)
    clear hX1;refine hK.out _ _ (HHd.out _ hc1) (fun hHeld1 => ?_);clear hK K hHeld;try simp only [zU, qI, qX, qY]
    refine zP (i := 4) (v := ?_) qU qC qC qC (fun _ _ _ h => h) (Or.inl ⟨by rfl, ?_⟩) qW ?_;rotate_left 1
    ·intro w hSw; (try dsimp only at hSw); go_simp; (first | done | with_reducible rfl)
    try simp only [zU, qI, qX, qY]
    refine zQ (rs := [5]) qC qT ?_;refine zN qU (fun K hK => ?_) zO;go_simp;refine hK.out _ _ (HHd.out _ hc1) (fun hHeld2 => ?_);clear hK K hHeld1;try simp only [zU, qI, qX, qY]
    refine zQ (rs := [6]) qC qT ?_;refine zN qU (fun K hK => ?_) zO;go_simp;refine (HBk.out _ hc1).mono ?_;rintro e w3 ⟨rfl, hst3⟩;have hb3 := zW hc1 hst3;refine hK.out _ _ (HHd.out _ hb3) (fun hHeld3 => ?_);clear hK K hHeld2 c5;try simp only [zU, qI, qX, qY]
    refine zP (i := 7) (v := ?_) qU qC qC qC (fun _ _ _ h => h) (Or.inl ⟨by rfl, ?_⟩) qW ?_;rotate_left 1
    ·intro w hSw; (try dsimp only at hSw); go_simp; (first | done | with_reducible rfl)
    try simp only [zU, qI, qX, qY]
    refine wpAnyH_done qC ?_ _;refine NoPanic.normal ?_;go_wp2_with fail;go_ret;exact ⟨by first | rfl | trivial, H1.out.trans (hb3.mono hs1)⟩
  ·by_cases h15 : 15 ≤ k
   ·have HR : Hid (vB s name.data.toList = (kF ((k : Int) - 15) s).1) := zA (by unfold vB; rw [HR0.out]; simp only; rw [if_pos h15])
    rw [HR.out];have i1 : (5 : Int) ≤ (k : Int) := by omega
    have i2 : ¬ (k : Int) ≤ 8 := by omega
    have i3 : (15 : Int) ≤ (k : Int) := by omega
    have e1 : IntKind.i64.wrap ((k : Int) - 15) = (k : Int) - 15 := zT _ qE;have HLk := zA (HLi.out ((k : Int) - 15));obtain ⟨al, hal⟩ : ∃ r, (kF ((k : Int) - 15) s).1 = r := ⟨_, rfl⟩;obtain ⟨so, hso⟩ : ∃ r, (kF ((k : Int) - 15) s).2 = r := ⟨_, rfl⟩;rw [hal, hso] at HLk;rw [hal];clear HR0 HLT HFN HR hal hso HLi h58 h15;go_enter Tryz.func8, Tryz.ntmps8
    go_wp2_with (first
     | (go_at_call 16; refine (HFd.out _ hw0).mono ?_; rintro e w2 ⟨rfl, hb2⟩; clear p0 f0; obtain ⟨p0, f0⟩ := blk (HB.out _ hb2))
     | (go_at_call 25; (with_reducible refine (HLk.out _ hb2).mono ?_); rintro e w3 ⟨rfl, hst3⟩; have hb3 := zW hb2 hst3))
    go_ret;exact ⟨by first | rfl | trivial, H1.out.trans (hb3.mono hs1)⟩
   ·have HR : Hid (vB s name.data.toList = false) := zA (by
     unfold vB; rw [HR0.out]; simp only; rw [if_neg h15];have : bitQ k = 0 := by unfold bitQ; rw [if_neg qE, if_neg qE, if_neg qE, if_neg qE]
     rw [this]; unfold hasS; rfl)
    rw [HR.out];have i3 : ¬ (15 : Int) ≤ (k : Int) := by omega
    have hcase : ¬ (5 : Int) ≤ (k : Int) ∨ ((5 : Int) ≤ (k : Int) ∧ ¬ (k : Int) ≤ 8) := by omega
    clear HR0 HLT HFN HR h58 h15;rcases hcase with i1 | ⟨i1, i2⟩
    all_goals
     go_enter Tryz.func8, Tryz.ntmps8
     go_wp2_with (first
      | (go_at_call 16; refine (HFd.out _ hw0).mono ?_; rintro e w2 ⟨rfl, hb2⟩; clear p0 f0; obtain ⟨p0, f0⟩ := blk (HB.out _ hb2)))
     go_ret;exact ⟨by first | rfl | trivial, H1.out.trans (hb2.mono hs1)⟩
set_option maxRecDepth 100000 in
theorem zHw (v : Value) (s : St) (name : ByteArray) (w : World) (S : Nat → Prop) (h : jC w S v s.lines) (hs : Small s.lines) (hf : Fits s.lines) (ho : -9223372036854775808 ≤ s.on ∧ s.on ≤ 9223372036854775807) (hof : -9223372036854775808 ≤ s.off ∧ s.off ≤ 9223372036854775807) (hn : name.size ≤ 1000000) :
  Calls zV 10 #[stV v s, .string name] w fun e w' => e = .returned (.bool (xQ s name.data.toList)) ∧ Below w.heap.size w w' := by
 obtain ⟨W1, hW1, hB, hz, k0⟩ := xC w v s;have HB : Hid (∀ W, Below W1.heap.size W1 W → W.heap[w.heap.size]? = some (.cells #[v, .int .i64 s.anc.line, .int .i64 s.anc.col, .int .i64 s.foc.line, .int .i64 s.foc.col, .int .i64 s.on, .int .i64 s.off] 26)) := zA fun W hW => jG hW k0;have hs1 := hB.size;have H1 := zA hB;have hw0 : Below W1.heap.size W1 W1 := zE _ _;have HV : Hid (∀ W, Below W1.heap.size W1 W → jC W S v s.lines) := zA fun W hW => h.below (zZ _) (hB.trans (hW.mono hs1));have HFd : Hid (∀ W, Below W1.heap.size W1 W → Calls zV 16 #[.string name] W fun e w' => e = .returned (.tuple #[.int .i64 (kM name.data.toList), .bool (jT name.data.toList).isSome]) ∧ Below W.heap.size W w') := zA fun W _ => zDh name W qE;have HBi : Hid (∀ (k : Int) W, Below W1.heap.size W1 W → Calls zV 29 #[stV v s, .int .i64 k] W fun e w' => e = .returned (.bool (xD s k)) ∧ Below W.heap.size W w') := zA fun k W hW => zHu v s k W S (HV.out W hW) hs hf ho hof;have HLi : Hid (∀ (k : Int) W, Below W1.heap.size W1 W → Calls zV 25 #[stV v s, .int .i64 k] W fun e w' => e = .returned (.tuple #[.bool (kF k s).1, .bool (kF k s).2]) ∧ Below W.heap.size W w') := zA fun k W hW => zEA v s k W S (HV.out W hW) hs ho hof;have HKd : Hid (∀ W, Below W1.heap.size W1 W → Calls zV 30 #[stV v s] W fun e w' => e = .returned (.tuple #[.int .i64 ((kB s).getD 0), .bool (kB s).isSome]) ∧ Below W.heap.size W w') := zA fun W hW => zFe v s W S (HV.out W hW) hs ho hof;have HM : Hid (∀ W, Below W1.heap.size W1 W → Calls zV 31 #[stV v s] W fun e w' => e = .returned (.bool (mayS s)) ∧ Below W.heap.size W w') := zA fun W hW => zAQ v s W S (HV.out W hW) hs ho hof;obtain ⟨kn, hkn⟩ : ∃ x, (kB s).isSome = x := ⟨_, rfl⟩;obtain ⟨kg, hkg⟩ : ∃ x, (kB s).getD 0 = x := ⟨_, rfl⟩;obtain ⟨ma, hma⟩ : ∃ x, mayS s = x := ⟨_, rfl⟩;have H12 : Hid ((mayS s && (kB s).isNone) = (ma && !kn)) := zA (by rw [← hma, ← hkn]; cases kB s <;> rfl);rw [hkn, hkg] at HKd;rw [hma] at HM;clear hkn hkg hma
 have HHd0 : Hid (∀ va vc W, v = .slice va s.lines.length vc → Below W1.heap.size W1 W → (fun w' => w'.cell? ⟨w.heap.size, 0, none⟩ = some (.slice va s.lines.length vc) ∧ w'.cell? ⟨w.heap.size, 1, none⟩ = some (.int .i64 s.anc.line) ∧ w'.cell? ⟨w.heap.size, 2, none⟩ = some (.int .i64 s.anc.col) ∧ w'.cell? ⟨w.heap.size, 3, none⟩ = some (.int .i64 s.foc.line) ∧ w'.cell? ⟨w.heap.size, 4, none⟩ = some (.int .i64 s.foc.col) ∧ w'.cell? ⟨w.heap.size, 5, none⟩ = some (.int .i64 s.on) ∧ w'.cell? ⟨w.heap.size, 6, none⟩ = some (.int .i64 s.off)) W) := zA fun va vc W e hW => by
  subst e;have q := (blk (HB.out W hW)).1;exact ⟨q 0, q 1, q 2, q 3, q 4, q 5, q 6⟩
 obtain ⟨R, hR⟩ : ∃ R, jT name.data.toList = R := ⟨_, rfl⟩;have HFN := zA (show kM name.data.toList = R.getD 0 by unfold kM; rw [hR]);have HLT : Hid (∀ k, R = some k → k < 17) := zA fun k e => zAa (hR.trans e);have HR0 := zA hR;rw [hR, HFN.out] at HFd;obtain ⟨p0, f0⟩ := blk k0;obtain ⟨va, vc, rfl⟩ := h.slice;have HHd : Hid (∀ W, Below W1.heap.size W1 W → (fun w' => w'.cell? ⟨w.heap.size, 0, none⟩ = some (.slice va s.lines.length vc) ∧ w'.cell? ⟨w.heap.size, 1, none⟩ = some (.int .i64 s.anc.line) ∧ w'.cell? ⟨w.heap.size, 2, none⟩ = some (.int .i64 s.anc.col) ∧ w'.cell? ⟨w.heap.size, 3, none⟩ = some (.int .i64 s.foc.line) ∧ w'.cell? ⟨w.heap.size, 4, none⟩ = some (.int .i64 s.foc.col) ∧ w'.cell? ⟨w.heap.size, 5, none⟩ = some (.int .i64 s.on) ∧ w'.cell? ⟨w.heap.size, 6, none⟩ = some (.int .i64 s.off)) W) := zA fun W hW => HHd0.out va vc W rfl hW;clear h hs hf ho hof hn k0 hB hR HHd0;cases R with
 | none =>
  have HR : Hid (xQ s name.data.toList = false) := zA (by unfold xQ; rw [HR0.out]);have HFd : Hid (∀ W, Below W1.heap.size W1 W → Calls zV 16 #[.string name] W fun e w' => e = .returned (.tuple #[.int .i64 0, .bool false]) ∧ Below W.heap.size W w') := zA HFd.out;rw [HR.out];clear HR0 HLT HFN HR;go_enter Tryz.func10, Tryz.ntmps10
  go_wp2_with (first
   | (go_at_call 16; refine (HFd.out _ hw0).mono ?_; rintro e w2 ⟨rfl, hb2⟩; clear p0 f0; obtain ⟨p0, f0⟩ := blk (HB.out _ hb2)))
  go_ret;exact ⟨by first | rfl | trivial, H1.out.trans (hb2.mono hs1)⟩
 | some k =>
  have hk := HLT.out k rfl;have HFd : Hid (∀ W, Below W1.heap.size W1 W → Calls zV 16 #[.string name] W fun e w' => e = .returned (.tuple #[.int .i64 (k : Int), .bool true]) ∧ Below W.heap.size W w') := zA HFd.out;have hk0 : (0 : Int) ≤ (k : Int) := zR _
  by_cases h58 : 5 ≤ k ∧ k ≤ 8
  ·have HR : Hid (xQ s name.data.toList = xD s (bitQ k)) := zA (by unfold xQ; rw [HR0.out]; simp only; rw [if_neg qE, if_neg qE])
   have hkb : k = 5 ∨ k = 6 ∨ k = 7 ∨ k = 8 := by omega
   rw [HR.out];clear HR0 HLT HFN HR h58 hk hk0;rcases hkb with rfl | rfl | rfl | rfl
   ·have HBk : Hid (∀ W, Below W1.heap.size W1 W → Calls zV 29 #[stV (.slice va s.lines.length vc) s, .int .i64 1] W fun e w' => e = .returned (.bool (xD s (bitQ 5))) ∧ Below W.heap.size W w') := zA (HBi.out 1)
    obtain ⟨res, hres⟩ : ∃ r, xD s (bitQ 5) = r := ⟨_, rfl⟩;rw [hres] at HBk ⊢;clear hres HBi;go_enter Tryz.func10, Tryz.ntmps10;go_upto_region 5 with (go_at_call 16; refine (HFd.out _ hw0).mono ?_; rintro e w2 ⟨rfl, hb2⟩; clear p0 f0; obtain ⟨p0, f0⟩ := blk (HB.out _ hb2))
    have ej : IntKind.i64.wrap 0 = 0 := rfl;refine wp_region_noPanic ?_;refine wp_region_held_drew (S := (fun w' => w'.cell? ⟨w.heap.size, 0, none⟩ = some (.slice va s.lines.length vc) ∧ w'.cell? ⟨w.heap.size, 1, none⟩ = some (.int .i64 s.anc.line) ∧ w'.cell? ⟨w.heap.size, 2, none⟩ = some (.int .i64 s.anc.col) ∧ w'.cell? ⟨w.heap.size, 3, none⟩ = some (.int .i64 s.foc.line) ∧ w'.cell? ⟨w.heap.size, 4, none⟩ = some (.int .i64 s.foc.col) ∧ w'.cell? ⟨w.heap.size, 5, none⟩ = some (.int .i64 s.on) ∧ w'.cell? ⟨w.heap.size, 6, none⟩ = some (.int .i64 s.off))) qC (HHd.out _ hb2.drew) (fun hHeld => ?_);refine zP (i := 0) (v := ?_) vD qC qC qC (fun _ _ _ h => h) (Or.inl ⟨by rfl, ?_⟩) qW ?_;rotate_left 1
    ·intro w hSw; (try dsimp only at hSw); go_simp; (first | done | with_reducible rfl)
    try simp only [zU, qI, qX, qY]
    refine zP (i := 2) (v := ?_) qU qC qC qC (fun _ _ _ h => h) (Or.inl ⟨by rfl, ?_⟩) qW ?_;rotate_left 1
    ·intro w hSw; (try dsimp only at hSw); go_simp; (first | done | with_reducible rfl)
    try simp only [zU, qI, qX, qY]
    refine zP (i := 3) (v := ?_) qU qC qC qC (fun _ _ _ h => h) (Or.inl ⟨by rfl, ?_⟩) qW ?_;rotate_left 1
    ·intro w hSw; (try dsimp only at hSw); go_simp; (first | done | with_reducible rfl)
    try simp only [zU, qI, qX, qY]
    refine zQ (rs := [1]) qC qT ?_;refine zN qU (fun K hK => ?_) zO;go_simp;obtain ⟨X1, hX1⟩ : ∃ X, (w2.alloc (.cells #[.int .i64 1, .int .i64 2, .int .i64 4, .int .i64 8] 3)).drew = X := ⟨_, rfl⟩;rw [hX1];have hc1 : Below W1.heap.size W1 X1 := hX1 ▸ (xK hb2 _).drew;have c5 : X1.cell? ⟨w2.heap.size, 0, none⟩ = some (.int .i64 1) := by rw [← hX1]; exact qD (jF w2 _ rfl)
    clear hX1;refine hK.out _ _ (HHd.out _ hc1) (fun hHeld1 => ?_);clear hK K hHeld;try simp only [zU, qI, qX, qY]
    refine zP (i := 4) (v := ?_) qU qC qC qC (fun _ _ _ h => h) (Or.inl ⟨by rfl, ?_⟩) qW ?_;rotate_left 1
    ·intro w hSw; (try dsimp only at hSw); go_simp; (first | done | with_reducible rfl)
    try simp only [zU, qI, qX, qY]
    refine zQ (rs := [5]) qC qT ?_;refine zN qU (fun K hK => ?_) zO;go_simp;refine hK.out _ _ (HHd.out _ hc1) (fun hHeld2 => ?_);clear hK K hHeld1;try simp only [zU, qI, qX, qY]
    refine zQ (rs := [6]) qC qT ?_;refine zN qU (fun K hK => ?_) zO;go_simp;refine (HBk.out _ hc1).mono ?_;rintro e w3 ⟨rfl, hst3⟩;have hb3 := zW hc1 hst3;refine hK.out _ _ (HHd.out _ hb3) (fun hHeld3 => ?_);clear hK K hHeld2 c5;try simp only [zU, qI, qX, qY]
    refine zP (i := 7) (v := ?_) qU qC qC qC (fun _ _ _ h => h) (Or.inl ⟨by rfl, ?_⟩) qW ?_;rotate_left 1
    ·intro w hSw; (try dsimp only at hSw); go_simp; (first | done | with_reducible rfl)
    try simp only [zU, qI, qX, qY]
    refine wpAnyH_done qC ?_ _;refine NoPanic.normal ?_;go_wp2_with fail;go_ret;exact ⟨by first | rfl | trivial, H1.out.trans (hb3.mono hs1)⟩
   ·have HBk : Hid (∀ W, Below W1.heap.size W1 W → Calls zV 29 #[stV (.slice va s.lines.length vc) s, .int .i64 2] W fun e w' => e = .returned (.bool (xD s (bitQ 6))) ∧ Below W.heap.size W w') := zA (HBi.out 2)
    obtain ⟨res, hres⟩ : ∃ r, xD s (bitQ 6) = r := ⟨_, rfl⟩;rw [hres] at HBk ⊢;clear hres HBi;go_enter Tryz.func10, Tryz.ntmps10;go_upto_region 5 with (go_at_call 16; refine (HFd.out _ hw0).mono ?_; rintro e w2 ⟨rfl, hb2⟩; clear p0 f0; obtain ⟨p0, f0⟩ := blk (HB.out _ hb2))
    have ej : IntKind.i64.wrap 1 = 1 := rfl;refine wp_region_noPanic ?_;refine wp_region_held_drew (S := (fun w' => w'.cell? ⟨w.heap.size, 0, none⟩ = some (.slice va s.lines.length vc) ∧ w'.cell? ⟨w.heap.size, 1, none⟩ = some (.int .i64 s.anc.line) ∧ w'.cell? ⟨w.heap.size, 2, none⟩ = some (.int .i64 s.anc.col) ∧ w'.cell? ⟨w.heap.size, 3, none⟩ = some (.int .i64 s.foc.line) ∧ w'.cell? ⟨w.heap.size, 4, none⟩ = some (.int .i64 s.foc.col) ∧ w'.cell? ⟨w.heap.size, 5, none⟩ = some (.int .i64 s.on) ∧ w'.cell? ⟨w.heap.size, 6, none⟩ = some (.int .i64 s.off))) qC (HHd.out _ hb2.drew) (fun hHeld => ?_);refine zP (i := 0) (v := ?_) vD qC qC qC (fun _ _ _ h => h) (Or.inl ⟨by rfl, ?_⟩) qW ?_;rotate_left 1
    ·intro w hSw; (try dsimp only at hSw); go_simp; (first | done | with_reducible rfl)
    try simp only [zU, qI, qX, qY]
    refine zP (i := 2) (v := ?_) qU qC qC qC (fun _ _ _ h => h) (Or.inl ⟨by rfl, ?_⟩) qW ?_;rotate_left 1
    ·intro w hSw; (try dsimp only at hSw); go_simp; (first | done | with_reducible rfl)
    try simp only [zU, qI, qX, qY]
    refine zP (i := 3) (v := ?_) qU qC qC qC (fun _ _ _ h => h) (Or.inl ⟨by rfl, ?_⟩) qW ?_;rotate_left 1
    ·intro w hSw; (try dsimp only at hSw); go_simp; (first | done | with_reducible rfl)
    try simp only [zU, qI, qX, qY]
    refine zQ (rs := [1]) qC qT ?_;refine zN qU (fun K hK => ?_) zO;go_simp;obtain ⟨X1, hX1⟩ : ∃ X, (w2.alloc (.cells #[.int .i64 1, .int .i64 2, .int .i64 4, .int .i64 8] 3)).drew = X := ⟨_, rfl⟩;rw [hX1];have hc1 : Below W1.heap.size W1 X1 := hX1 ▸ (xK hb2 _).drew;have c5 : X1.cell? ⟨w2.heap.size, 1, none⟩ = some (.int .i64 2) := by rw [← hX1]; exact qD (jF w2 _ rfl)
    clear hX1;refine hK.out _ _ (HHd.out _ hc1) (fun hHeld1 => ?_);clear hK K hHeld;try simp only [zU, qI, qX, qY]
    refine zP (i := 4) (v := ?_) qU qC qC qC (fun _ _ _ h => h) (Or.inl ⟨by rfl, ?_⟩) qW ?_;rotate_left 1
    ·intro w hSw; (try dsimp only at hSw); go_simp; (first | done | with_reducible rfl)
    try simp only [zU, qI, qX, qY]
    refine zQ (rs := [5]) qC qT ?_;refine zN qU (fun K hK => ?_) zO;go_simp;refine hK.out _ _ (HHd.out _ hc1) (fun hHeld2 => ?_);clear hK K hHeld1;try simp only [zU, qI, qX, qY]
    refine zQ (rs := [6]) qC qT ?_;refine zN qU (fun K hK => ?_) zO;go_simp;refine (HBk.out _ hc1).mono ?_;rintro e w3 ⟨rfl, hst3⟩;have hb3 := zW hc1 hst3;refine hK.out _ _ (HHd.out _ hb3) (fun hHeld3 => ?_);clear hK K hHeld2 c5;try simp only [zU, qI, qX, qY]
    refine zP (i := 7) (v := ?_) qU qC qC qC (fun _ _ _ h => h) (Or.inl ⟨by rfl, ?_⟩) qW ?_;rotate_left 1
    ·intro w hSw; (try dsimp only at hSw); go_simp; (first | done | with_reducible rfl)
    try simp only [zU, qI, qX, qY]
    refine wpAnyH_done qC ?_ _;refine NoPanic.normal ?_;go_wp2_with fail;go_ret;exact ⟨by first | rfl | trivial, H1.out.trans (hb3.mono hs1)⟩
   ·have HBk : Hid (∀ W, Below W1.heap.size W1 W → Calls zV 29 #[stV (.slice va s.lines.length vc) s, .int .i64 4] W fun e w' => e = .returned (.bool (xD s (bitQ 7))) ∧ Below W.heap.size W w') := zA (HBi.out 4)
    obtain ⟨res, hres⟩ : ∃ r, xD s (bitQ 7) = r := ⟨_, rfl⟩;rw [hres] at HBk ⊢;clear hres HBi;go_enter Tryz.func10, Tryz.ntmps10;go_upto_region 5 with (go_at_call 16; refine (HFd.out _ hw0).mono ?_; rintro e w2 ⟨rfl, hb2⟩; clear p0 f0; obtain ⟨p0, f0⟩ := blk (HB.out _ hb2))
    have ej : IntKind.i64.wrap 2 = 2 := rfl;refine wp_region_noPanic ?_;refine wp_region_held_drew (S := (fun w' => w'.cell? ⟨w.heap.size, 0, none⟩ = some (.slice va s.lines.length vc) ∧ w'.cell? ⟨w.heap.size, 1, none⟩ = some (.int .i64 s.anc.line) ∧ w'.cell? ⟨w.heap.size, 2, none⟩ = some (.int .i64 s.anc.col) ∧ w'.cell? ⟨w.heap.size, 3, none⟩ = some (.int .i64 s.foc.line) ∧ w'.cell? ⟨w.heap.size, 4, none⟩ = some (.int .i64 s.foc.col) ∧ w'.cell? ⟨w.heap.size, 5, none⟩ = some (.int .i64 s.on) ∧ w'.cell? ⟨w.heap.size, 6, none⟩ = some (.int .i64 s.off))) qC (HHd.out _ hb2.drew) (fun hHeld => ?_);refine zP (i := 0) (v := ?_) vD qC qC qC (fun _ _ _ h => h) (Or.inl ⟨by rfl, ?_⟩) qW ?_;rotate_left 1
    ·intro w hSw; (try dsimp only at hSw); go_simp; (first | done | with_reducible rfl)
    try simp only [zU, qI, qX, qY]
    refine zP (i := 2) (v := ?_) qU qC qC qC (fun _ _ _ h => h) (Or.inl ⟨by rfl, ?_⟩) qW ?_;rotate_left 1
    ·intro w hSw; (try dsimp only at hSw); go_simp; (first | done | with_reducible rfl)
    try simp only [zU, qI, qX, qY]
    refine zP (i := 3) (v := ?_) qU qC qC qC (fun _ _ _ h => h) (Or.inl ⟨by rfl, ?_⟩) qW ?_;rotate_left 1
    ·intro w hSw; (try dsimp only at hSw); go_simp; (first | done | with_reducible rfl)
    try simp only [zU, qI, qX, qY]
    refine zQ (rs := [1]) qC qT ?_;refine zN qU (fun K hK => ?_) zO;go_simp;obtain ⟨X1, hX1⟩ : ∃ X, (w2.alloc (.cells #[.int .i64 1, .int .i64 2, .int .i64 4, .int .i64 8] 3)).drew = X := ⟨_, rfl⟩;rw [hX1];have hc1 : Below W1.heap.size W1 X1 := hX1 ▸ (xK hb2 _).drew;have c5 : X1.cell? ⟨w2.heap.size, 2, none⟩ = some (.int .i64 4) := by rw [← hX1]; exact qD (jF w2 _ rfl)
    clear hX1;refine hK.out _ _ (HHd.out _ hc1) (fun hHeld1 => ?_);clear hK K hHeld;try simp only [zU, qI, qX, qY]
    refine zP (i := 4) (v := ?_) qU qC qC qC (fun _ _ _ h => h) (Or.inl ⟨by rfl, ?_⟩) qW ?_;rotate_left 1
    ·intro w hSw; (try dsimp only at hSw); go_simp; (first | done | with_reducible rfl)
    try simp only [zU, qI, qX, qY]
    refine zQ (rs := [5]) qC qT ?_;refine zN qU (fun K hK => ?_) zO;go_simp;refine hK.out _ _ (HHd.out _ hc1) (fun hHeld2 => ?_);clear hK K hHeld1;try simp only [zU, qI, qX, qY]
    refine zQ (rs := [6]) qC qT ?_;refine zN qU (fun K hK => ?_) zO;go_simp;refine (HBk.out _ hc1).mono ?_;rintro e w3 ⟨rfl, hst3⟩;have hb3 := zW hc1 hst3;refine hK.out _ _ (HHd.out _ hb3) (fun hHeld3 => ?_);clear hK K hHeld2 c5;try simp only [zU, qI, qX, qY]
    refine zP (i := 7) (v := ?_) qU qC qC qC (fun _ _ _ h => h) (Or.inl ⟨by rfl, ?_⟩) qW ?_;rotate_left 1
    ·intro w hSw; (try dsimp only at hSw); go_simp; (first | done | with_reducible rfl)
    try simp only [zU, qI, qX, qY]
    refine wpAnyH_done qC ?_ _;refine NoPanic.normal ?_;go_wp2_with fail;go_ret;exact ⟨by first | rfl | trivial, H1.out.trans (hb3.mono hs1)⟩
   ·have HBk : Hid (∀ W, Below W1.heap.size W1 W → Calls zV 29 #[stV (.slice va s.lines.length vc) s, .int .i64 8] W fun e w' => e = .returned (.bool (xD s (bitQ 8))) ∧ Below W.heap.size W w') := zA (HBi.out 8)
    obtain ⟨res, hres⟩ : ∃ r, xD s (bitQ 8) = r := ⟨_, rfl⟩;rw [hres] at HBk ⊢;clear hres HBi;go_enter Tryz.func10, Tryz.ntmps10;go_upto_region 5 with (go_at_call 16; refine (HFd.out _ hw0).mono ?_; rintro e w2 ⟨rfl, hb2⟩; clear p0 f0; obtain ⟨p0, f0⟩ := blk (HB.out _ hb2))
    have ej : IntKind.i64.wrap 3 = 3 := rfl;refine wp_region_noPanic ?_;refine wp_region_held_drew (S := (fun w' => w'.cell? ⟨w.heap.size, 0, none⟩ = some (.slice va s.lines.length vc) ∧ w'.cell? ⟨w.heap.size, 1, none⟩ = some (.int .i64 s.anc.line) ∧ w'.cell? ⟨w.heap.size, 2, none⟩ = some (.int .i64 s.anc.col) ∧ w'.cell? ⟨w.heap.size, 3, none⟩ = some (.int .i64 s.foc.line) ∧ w'.cell? ⟨w.heap.size, 4, none⟩ = some (.int .i64 s.foc.col) ∧ w'.cell? ⟨w.heap.size, 5, none⟩ = some (.int .i64 s.on) ∧ w'.cell? ⟨w.heap.size, 6, none⟩ = some (.int .i64 s.off))) qC (HHd.out _ hb2.drew) (fun hHeld => ?_);refine zP (i := 0) (v := ?_) vD qC qC qC (fun _ _ _ h => h) (Or.inl ⟨by rfl, ?_⟩) qW ?_;rotate_left 1
    ·intro w hSw; (try dsimp only at hSw); go_simp; (first | done | with_reducible rfl)
    try simp only [zU, qI, qX, qY]
    refine zP (i := 2) (v := ?_) qU qC qC qC (fun _ _ _ h => h) (Or.inl ⟨by rfl, ?_⟩) qW ?_;rotate_left 1
    ·intro w hSw; (try dsimp only at hSw); go_simp; (first | done | with_reducible rfl)
    try simp only [zU, qI, qX, qY]
    refine zP (i := 3) (v := ?_) qU qC qC qC (fun _ _ _ h => h) (Or.inl ⟨by rfl, ?_⟩) qW ?_;rotate_left 1
    ·intro w hSw; (try dsimp only at hSw); go_simp; (first | done | with_reducible rfl)
    try simp only [zU, qI, qX, qY]
    refine zQ (rs := [1]) qC qT ?_;refine zN qU (fun K hK => ?_) zO;go_simp;obtain ⟨X1, hX1⟩ : ∃ X, (w2.alloc (.cells #[.int .i64 1, .int .i64 2, .int .i64 4, .int .i64 8] 3)).drew = X := ⟨_, rfl⟩;rw [hX1];have hc1 : Below W1.heap.size W1 X1 := hX1 ▸ (xK hb2 _).drew;have c5 : X1.cell? ⟨w2.heap.size, 3, none⟩ = some (.int .i64 8) := by rw [← hX1]; exact qD (jF w2 _ rfl)
    clear hX1;refine hK.out _ _ (HHd.out _ hc1) (fun hHeld1 => ?_);clear hK K hHeld;try simp only [zU, qI, qX, qY]
    refine zP (i := 4) (v := ?_) qU qC qC qC (fun _ _ _ h => h) (Or.inl ⟨by rfl, ?_⟩) qW ?_;rotate_left 1
    ·intro w hSw; (try dsimp only at hSw); go_simp; (first | done | with_reducible rfl)
    try simp only [zU, qI, qX, qY]
    refine zQ (rs := [5]) qC qT ?_;refine zN qU (fun K hK => ?_) zO;go_simp;refine hK.out _ _ (HHd.out _ hc1) (fun hHeld2 => ?_);clear hK K hHeld1;try simp only [zU, qI, qX, qY]
    refine zQ (rs := [6]) qC qT ?_;refine zN qU (fun K hK => ?_) zO;go_simp;refine (HBk.out _ hc1).mono ?_;rintro e w3 ⟨rfl, hst3⟩;have hb3 := zW hc1 hst3;refine hK.out _ _ (HHd.out _ hb3) (fun hHeld3 => ?_);clear hK K hHeld2 c5;try simp only [zU, qI, qX, qY]
    refine zP (i := 7) (v := ?_) qU qC qC qC (fun _ _ _ h => h) (Or.inl ⟨by rfl, ?_⟩) qW ?_;rotate_left 1
    ·intro w hSw; (try dsimp only at hSw); go_simp; (first | done | with_reducible rfl)
    try simp only [zU, qI, qX, qY]
    refine wpAnyH_done qC ?_ _;refine NoPanic.normal ?_;go_wp2_with fail;go_ret;exact ⟨by first | rfl | trivial, H1.out.trans (hb3.mono hs1)⟩
  ·by_cases h15 : 15 ≤ k
   ·have HR : Hid (xQ s name.data.toList = ((kF ((k : Int) - 15) s).2 && !(kF ((k : Int) - 15) s).1)) := zA (by unfold xQ; rw [HR0.out]; simp only; rw [if_neg qE, if_pos h15])
    rw [HR.out];have i1 : (5 : Int) ≤ (k : Int) := by omega
    have i2 : ¬ (k : Int) ≤ 8 := by omega
    have i3 : (15 : Int) ≤ (k : Int) := by omega
    have e1 : IntKind.i64.wrap ((k : Int) - 15) = (k : Int) - 15 := zT _ qE;have HLk := zA (HLi.out ((k : Int) - 15));obtain ⟨al, hal⟩ : ∃ r, (kF ((k : Int) - 15) s).1 = r := ⟨_, rfl⟩;obtain ⟨so, hso⟩ : ∃ r, (kF ((k : Int) - 15) s).2 = r := ⟨_, rfl⟩;rw [hal, hso] at HLk;rw [hal, hso];clear HR0 HLT HFN HR hal hso HLi h58 h15;cases so <;> cases al
    all_goals
     go_enter Tryz.func10, Tryz.ntmps10
     go_wp2_with (first
      | (go_at_call 16; refine (HFd.out _ hw0).mono ?_; rintro e w2 ⟨rfl, hb2⟩; clear p0 f0; obtain ⟨p0, f0⟩ := blk (HB.out _ hb2))
      | (go_at_call 25; (with_reducible refine (HLk.out _ hb2).mono ?_); rintro e w3 ⟨rfl, hst3⟩; have hb3 := zW hb2 hst3))
     go_ret;exact ⟨by first | rfl | trivial, H1.out.trans (hb3.mono hs1)⟩
   ·have i3 : ¬ (15 : Int) ≤ (k : Int) := by omega
    by_cases h12 : k = 12
    ·subst h12
     have HR : Hid (xQ s name.data.toList = (ma && !kn)) := zA (by unfold xQ; rw [HR0.out]; exact H12.out);rw [HR.out];clear HR0 HLT HFN HR h58 h15 H12;cases ma <;> cases kn
     all_goals
      go_enter Tryz.func10, Tryz.ntmps10
      go_wp2_with (first
       | (go_at_call 16; refine (HFd.out _ hw0).mono ?_; rintro e w2 ⟨rfl, hb2⟩; clear p0 f0; obtain ⟨p0, f0⟩ := blk (HB.out _ hb2))
       | (go_at_call 30; (with_reducible refine (HKd.out _ hb2).mono ?_); rintro e w3 ⟨rfl, hst3⟩; have hb3 := zW hb2 hst3; clear p0 f0; obtain ⟨p0, f0⟩ := blk (HB.out _ hb3))
       | (go_at_call 31; (with_reducible refine (HM.out _ hb3).mono ?_); rintro e w4 ⟨rfl, hst4⟩; have hb4 := zW hb3 hst4))
      go_ret;exact ⟨by first | rfl | trivial, H1.out.trans (hb4.mono hs1)⟩
    ·have HR : Hid (xQ s name.data.toList = false) := zA (by
      unfold xQ; rw [HR0.out]; simp only; rw [if_neg h12, if_neg h15];have : bitQ k = 0 := by unfold bitQ; rw [if_neg qE, if_neg qE, if_neg qE, if_neg qE]
      rw [this, zDA])
     rw [HR.out];have i4 : ((k : Int) == 12) = false := by simp; omega
     have hcase : ¬ (5 : Int) ≤ (k : Int) ∨ ((5 : Int) ≤ (k : Int) ∧ ¬ (k : Int) ≤ 8) := by omega
     clear HR0 HLT HFN HR h58 h15 h12 H12;rcases hcase with i1 | ⟨i1, i2⟩
     all_goals
      go_enter Tryz.func10, Tryz.ntmps10
      go_wp2_with (first
       | (go_at_call 16; refine (HFd.out _ hw0).mono ?_; rintro e w2 ⟨rfl, hb2⟩; clear p0 f0; obtain ⟨p0, f0⟩ := blk (HB.out _ hb2))
       | (go_at_call 30; (with_reducible refine (HKd.out _ hb2).mono ?_); rintro e w3 ⟨rfl, hst3⟩; have hb3 := zW hb2 hst3; clear p0 f0; obtain ⟨p0, f0⟩ := blk (HB.out _ hb3)))
      go_ret;exact ⟨by first | rfl | trivial, H1.out.trans (hb3.mono hs1)⟩
set_option maxRecDepth 100000 in
theorem zHr (v : Value) (s : St) (name : ByteArray) (w : World) (S : Nat → Prop) (h : jC w S v s.lines) (hs : Small s.lines) (hf : Fits s.lines) (ho : -9223372036854775808 ≤ s.on ∧ s.on ≤ 9223372036854775807) (hof : -9223372036854775808 ≤ s.off ∧ s.off ≤ 9223372036854775807) (hn : name.size ≤ 1000000) :
  Calls zV 12 #[stV v s, .string name] w fun e w' => e = .returned (.string ⟨(xM s name.data.toList).toArray⟩) ∧ Below w.heap.size w w' := by
 obtain ⟨W1, hW1, hB, hz, k0⟩ := xC w v s;have HB : Hid (∀ W, Below W1.heap.size W1 W → W.heap[w.heap.size]? = some (.cells #[v, .int .i64 s.anc.line, .int .i64 s.anc.col, .int .i64 s.foc.line, .int .i64 s.foc.col, .int .i64 s.on, .int .i64 s.off] 26)) := zA fun W hW => jG hW k0;have hs1 := hB.size;have H1 := zA hB;have hw0 : Below W1.heap.size W1 W1 := zE _ _;have HV : Hid (∀ W, Below W1.heap.size W1 W → jC W S v s.lines) := zA fun W hW => h.below (zZ _) (hB.trans (hW.mono hs1));have HFd : Hid (∀ W, Below W1.heap.size W1 W → Calls zV 16 #[.string name] W fun e w' => e = .returned (.tuple #[.int .i64 (kM name.data.toList), .bool (jT name.data.toList).isSome]) ∧ Below W.heap.size W w') := zA fun W _ => zDh name W qE;have HH : Hid (∀ W, Below W1.heap.size W1 W → Calls zV 35 #[stV v s] W fun e w' => e = .returned (.string ⟨(vT s).toArray⟩) ∧ Below W.heap.size W w') := zA fun W hW => zHM v s W S (HV.out W hW) hs hf ho hof;have HKd : Hid (∀ W, Below W1.heap.size W1 W → Calls zV 30 #[stV v s] W fun e w' => e = .returned (.tuple #[.int .i64 ((kB s).getD 0), .bool (kB s).isSome]) ∧ Below W.heap.size W w') := zA fun W hW => zFe v s W S (HV.out W hW) hs ho hof;have HNm : Hid (∀ q W, kB s = some q → Calls zV 36 #[.int .i64 (q + 2)] W fun e w' => e = .returned (.string ⟨(vM q).toArray⟩) ∧ Below W.heap.size W w') := zA fun q W hq => zHs q (zDu hq) W;obtain ⟨K, hK⟩ : ∃ K, kB s = K := ⟨_, rfl⟩;rw [hK] at HKd;have HKr : Hid (∀ q, K = some q → 0 ≤ q ∧ q ≤ 3) := zA fun q e => zDu (hK.trans e);have HNm : Hid (∀ q W, K = some q → Calls zV 36 #[.int .i64 (q + 2)] W fun e w' => e = .returned (.string ⟨(vM q).toArray⟩) ∧ Below W.heap.size W w') := zA fun q W hq => HNm.out q W (hK.trans hq);have HK0 := zA hK;clear hK
 have HHd0 : Hid (∀ va vc W, v = .slice va s.lines.length vc → Below W1.heap.size W1 W → (fun w' => w'.cell? ⟨w.heap.size, 0, none⟩ = some (.slice va s.lines.length vc) ∧ w'.cell? ⟨w.heap.size, 1, none⟩ = some (.int .i64 s.anc.line) ∧ w'.cell? ⟨w.heap.size, 2, none⟩ = some (.int .i64 s.anc.col) ∧ w'.cell? ⟨w.heap.size, 3, none⟩ = some (.int .i64 s.foc.line) ∧ w'.cell? ⟨w.heap.size, 4, none⟩ = some (.int .i64 s.foc.col) ∧ w'.cell? ⟨w.heap.size, 5, none⟩ = some (.int .i64 s.on) ∧ w'.cell? ⟨w.heap.size, 6, none⟩ = some (.int .i64 s.off)) W) := zA fun va vc W e hW => by
  subst e;have q := (blk (HB.out W hW)).1;exact ⟨q 0, q 1, q 2, q 3, q 4, q 5, q 6⟩
 obtain ⟨R, hR⟩ : ∃ R, jT name.data.toList = R := ⟨_, rfl⟩;have HFN := zA (show kM name.data.toList = R.getD 0 by unfold kM; rw [hR]);have HLT : Hid (∀ k, R = some k → k < 17) := zA fun k e => zAa (hR.trans e);have HR0 := zA hR;rw [hR, HFN.out] at HFd;obtain ⟨p0, f0⟩ := blk k0;obtain ⟨va, vc, rfl⟩ := h.slice;have HHd : Hid (∀ W, Below W1.heap.size W1 W → (fun w' => w'.cell? ⟨w.heap.size, 0, none⟩ = some (.slice va s.lines.length vc) ∧ w'.cell? ⟨w.heap.size, 1, none⟩ = some (.int .i64 s.anc.line) ∧ w'.cell? ⟨w.heap.size, 2, none⟩ = some (.int .i64 s.anc.col) ∧ w'.cell? ⟨w.heap.size, 3, none⟩ = some (.int .i64 s.foc.line) ∧ w'.cell? ⟨w.heap.size, 4, none⟩ = some (.int .i64 s.foc.col) ∧ w'.cell? ⟨w.heap.size, 5, none⟩ = some (.int .i64 s.on) ∧ w'.cell? ⟨w.heap.size, 6, none⟩ = some (.int .i64 s.off)) W) := zA fun W hW => HHd0.out va vc W rfl hW;clear h hs hf ho hof hn k0 hB hR HHd0;cases R with
 | none =>
  have HR : Hid (xM s name.data.toList = []) := zA (by unfold xM; rw [HR0.out]);have HFd : Hid (∀ W, Below W1.heap.size W1 W → Calls zV 16 #[.string name] W fun e w' => e = .returned (.tuple #[.int .i64 0, .bool false]) ∧ Below W.heap.size W w') := zA HFd.out;rw [HR.out];clear HR0 HLT HFN HR;go_enter Tryz.func12, Tryz.ntmps12
  go_wp2_with (first
   | (go_at_call 16; refine (HFd.out _ hw0).mono ?_; rintro e w2 ⟨rfl, hb2⟩; clear p0 f0; obtain ⟨p0, f0⟩ := blk (HB.out _ hb2))
   | (go_at_call 30; (with_reducible refine (HKd.out _ hb2).mono ?_); rintro e w3 ⟨rfl, hst3⟩; have hb3 := zW hb2 hst3))
  go_ret;exact ⟨by first | rfl | trivial, H1.out.trans (hb3.mono hs1)⟩
 | some k =>
  have hk := HLT.out k rfl;have HFd : Hid (∀ W, Below W1.heap.size W1 W → Calls zV 16 #[.string name] W fun e w' => e = .returned (.tuple #[.int .i64 (k : Int), .bool true]) ∧ Below W.heap.size W w') := zA HFd.out
  by_cases h9 : k = 9
  ·subst h9
   have HR : Hid (xM s name.data.toList = vT s) := zA (by unfold xM; rw [HR0.out]; rfl);rw [HR.out];clear HR0 HLT HFN HR;go_enter Tryz.func12, Tryz.ntmps12
   go_wp2_with (first
    | (go_at_call 16; refine (HFd.out _ hw0).mono ?_; rintro e w2 ⟨rfl, hb2⟩; clear p0 f0; obtain ⟨p0, f0⟩ := blk (HB.out _ hb2))
    | (go_at_call 35; (with_reducible refine (HH.out _ hb2).mono ?_); rintro e w3 ⟨rfl, hst3⟩; have hb3 := zW hb2 hst3))
   go_ret;exact ⟨by first | rfl | trivial, H1.out.trans (hb3.mono hs1)⟩
  ·have i9 : ((k : Int) == 9) = false := by simp; omega
   by_cases h12 : k = 12
   ·subst h12
    cases K with
    | none =>
     have HR : Hid (xM s name.data.toList = []) := zA (by unfold xM; rw [HR0.out]; simp only; rw [if_pos trivial, HK0.out]);have HKd : Hid (∀ W, Below W1.heap.size W1 W → Calls zV 30 #[stV (.slice va s.lines.length vc) s] W fun e w' => e = .returned (.tuple #[.int .i64 0, .bool false]) ∧ Below W.heap.size W w') := zA HKd.out;rw [HR.out];clear HR0 HLT HFN HR HK0 HKr HNm;go_enter Tryz.func12, Tryz.ntmps12
     go_wp2_with (first
      | (go_at_call 16; refine (HFd.out _ hw0).mono ?_; rintro e w2 ⟨rfl, hb2⟩; clear p0 f0; obtain ⟨p0, f0⟩ := blk (HB.out _ hb2))
      | (go_at_call 30; (with_reducible refine (HKd.out _ hb2).mono ?_); rintro e w3 ⟨rfl, hst3⟩; have hb3 := zW hb2 hst3))
     go_ret;exact ⟨by first | rfl | trivial, H1.out.trans (hb3.mono hs1)⟩
    | some q =>
     have HR : Hid (xM s name.data.toList = vM q) := zA (by unfold xM; rw [HR0.out]; simp only; rw [if_pos trivial, HK0.out]);have HKd : Hid (∀ W, Below W1.heap.size W1 W → Calls zV 30 #[stV (.slice va s.lines.length vc) s] W fun e w' => e = .returned (.tuple #[.int .i64 q, .bool true]) ∧ Below W.heap.size W w') := zA HKd.out;have hq := HKr.out q rfl;have e1 : IntKind.i64.wrap (2 + q) = q + 2 := by rw [zT _ qE]; omega
     have HNk := zA fun W => HNm.out q W rfl;rw [HR.out];clear HR0 HLT HFN HR HK0 HKr HNm hq;go_enter Tryz.func12, Tryz.ntmps12
     go_wp2_with (first
      | (go_at_call 16; refine (HFd.out _ hw0).mono ?_; rintro e w2 ⟨rfl, hb2⟩; clear p0 f0; obtain ⟨p0, f0⟩ := blk (HB.out _ hb2))
      | (go_at_call 30; (with_reducible refine (HKd.out _ hb2).mono ?_); rintro e w3 ⟨rfl, hst3⟩; have hb3 := zW hb2 hst3)
      | (go_at_call 36; (with_reducible refine (HNk.out _).mono ?_); rintro e w4 ⟨rfl, hst4⟩; have hb4 := zW hb3 hst4))
     go_ret;exact ⟨by first | rfl | trivial, H1.out.trans (hb4.mono hs1)⟩
   ·have HR : Hid (xM s name.data.toList = []) := zA (by unfold xM; rw [HR0.out]; simp only; rw [if_neg h12, if_neg h9])
    have i12 : ((k : Int) == 12) = false := by simp; omega
    rw [HR.out];clear HR0 HLT HFN HR HK0 HKr HNm h9 h12;go_enter Tryz.func12, Tryz.ntmps12
    go_wp2_with (first
     | (go_at_call 16; refine (HFd.out _ hw0).mono ?_; rintro e w2 ⟨rfl, hb2⟩; clear p0 f0; obtain ⟨p0, f0⟩ := blk (HB.out _ hb2))
     | (go_at_call 30; (with_reducible refine (HKd.out _ hb2).mono ?_); rintro e w3 ⟨rfl, hst3⟩; have hb3 := zW hb2 hst3))
    go_ret;exact ⟨by first | rfl | trivial, H1.out.trans (hb3.mono hs1)⟩
set_option maxRecDepth 100000 in
theorem zIu (v : Value) (s : St) (name : ByteArray) (w : World) (S : Nat → Prop) (h : jC w S v s.lines) (he : EnvT w) (hs : Small s.lines) (hf : Fits s.lines) (hn : name.size ≤ 1000000) :
  Calls zV 7 #[stV v s, .string name] w fun e w' => e = .returned (.bool (vB s name.data.toList)) ∧ Below w.heap.size w w' := by
 obtain ⟨W1, hW1, hB, hz, k0⟩ := xC w v s;have HB : Hid (∀ W, Below W1.heap.size W1 W → W.heap[w.heap.size]? = some (.cells #[v, .int .i64 s.anc.line, .int .i64 s.anc.col, .int .i64 s.foc.line, .int .i64 s.foc.col, .int .i64 s.on, .int .i64 s.off] 26)) := zA fun W hW => jG hW k0;have hs1 := hB.size;have H1 := zA hB;have hw0 : Below W1.heap.size W1 W1 := zE _ _;have HV : Hid (∀ W, Below W1.heap.size W1 W → jC W S v s.lines ∧ EnvT W) := zA fun W hW => ⟨(h.below (zZ _) hB).below (zZ _) hW, (he.below hB).below hW⟩;have HLq : Hid (∀ W, Below W1.heap.size W1 W → Calls zV 21 #[stV v s, .string name] W fun e w' => e = .returned (.tuple #[.bool (xU s name.data.toList).1, .bool (xU s name.data.toList).2]) ∧ Below W.heap.size W w') := zA fun W hW => zEB v s name W S (HV.out W hW).1 (HV.out W hW).2 hs hf hn;have HBt : Hid (∀ W, Below W1.heap.size W1 W → Calls zV 23 #[.string name] W fun e w' => e = .returned (.int .i64 (bitN name.data.toList)) ∧ Below W.heap.size W w') := zA fun W hW => zFA name W (HV.out W hW).2 hn;have HHs : Hid (∀ W, Below W1.heap.size W1 W → Calls zV 22 #[stV v s, .int .i64 (bitN name.data.toList)] W fun e w' => e = .returned (.bool (hasS s (bitN name.data.toList))) ∧ Below W.heap.size W w') := zA fun W hW => zJP v s _ W S (HV.out W hW).1 (HV.out W hW).2 hs hf;have HR := zA (zLC s name.data.toList);obtain ⟨bt, hbt⟩ : ∃ x, bitN name.data.toList = x := ⟨_, rfl⟩;obtain ⟨al, hal⟩ : ∃ x, (xU s name.data.toList).1 = x := ⟨_, rfl⟩;obtain ⟨so, hso⟩ : ∃ x, (xU s name.data.toList).2 = x := ⟨_, rfl⟩;obtain ⟨hx, hhx⟩ : ∃ x, hasS s (bitN name.data.toList) = x := ⟨_, rfl⟩;rw [hhx, hbt] at HHs;rw [hbt] at HBt;rw [hal, hso] at HLq;rw [HR.out, hal, hhx];obtain ⟨p0, f0⟩ := blk k0;obtain ⟨va, vc, rfl⟩ := h.slice;clear h he hs hf hB k0 hbt hal hso hhx HR;cases al
 ·go_enter Tryz.func7, Tryz.ntmps7
  go_wp2_with (go_at_call 21; refine (HLq.out _ hw0).mono ?_; rintro e w2 ⟨rfl, hb2⟩);refine kZ w2.heap.size qC qC (QWk.out ?_);refine QWk.want qC (fun K hK => ?_); refine qK ?_ (fun W hW => ?_) (hK _ ?_); rotate_left 1; (focus (skip; go_simp; try rfl)); clear hK K; (try simp only [zU, qI, qX, qY]);refine QWk.want qC (fun K hK => ?_); refine qK ?_ (fun W hW => ?_) (hK _ ?_); rotate_left 1; (focus (skip; go_simp; try rfl)); clear hK K; (try simp only [zU, qI, qX, qY]);refine QWk.want qC (fun K hK => ?_); refine qK ?_ (fun W hW => ?_) (hK _ ?_); rotate_left 1; (focus (obtain ⟨q0, g0⟩ := blk (HB.out _ (zW hb2 hW)); go_simp; try rfl)); clear hK K; (try simp only [zU, qI, qX, qY]);refine QWk.want qC (fun K hK => ?_); refine qK ?_ (fun W hW => ?_) (hK _ ?_); rotate_left 1; (focus (skip; go_simp; try rfl)); clear hK K; (try simp only [zU, qI, qX, qY]);refine QWk.want qC (fun K hK => ?_); refine yX (f := ?_) (args := ?_) ?_ (fun W hW => ?_) (fun W hW => ?_) (hK _ ?_); rotate_left 3; (focus (go_simp; constructor <;> rfl)); (focus (refine (HBt.out _ (zW hb2 hW)).mono ?_; rintro e W2 ⟨rfl, hbW⟩; refine ⟨?_, zW hW hbW⟩; rfl)); clear hK K; (try simp only [zU, qI, qX, qY]);refine QWk.want qC (fun K hK => ?_); refine yX (f := ?_) (args := ?_) ?_ (fun W hW => ?_) (fun W hW => ?_) (hK _ ?_); rotate_left 3; (focus (go_simp; constructor <;> rfl)); (focus (refine (HHs.out _ (zW hb2 hW)).mono ?_; rintro e W2 ⟨rfl, hbW⟩; refine ⟨?_, zW hW hbW⟩; rfl)); clear hK K; (try simp only [zU, qI, qX, qY]);refine QWk.want qC (fun K hK => ?_); refine qK ?_ (fun W hW => ?_) (hK _ ?_); rotate_left 1; (focus (skip; go_simp; try rfl)); clear hK K; (try simp only [zU, qI, qX, qY]);refine QWk.want qC (fun K hK => ?_); refine qK ?_ (fun W hW => ?_) (hK _ ?_); rotate_left 1; (focus (skip; go_simp; try rfl)); clear hK K; (try simp only [zU, qI, qX, qY]);refine QWk.mk (wpQuiet_nil (fun X6 hstX6 => ?_));go_wp2_with fail;go_ret;exact ⟨by simp, H1.out.trans ((zW hb2 hstX6).mono hs1)⟩
 ·go_enter Tryz.func7, Tryz.ntmps7
  go_wp2_with (go_at_call 21; refine (HLq.out _ hw0).mono ?_; rintro e w2 ⟨rfl, hb2⟩);refine kZ w2.heap.size qC qC (QWk.out ?_);refine QWk.want qC (fun K hK => ?_); refine qK ?_ (fun W hW => ?_) (hK _ ?_); rotate_left 1; (focus (skip; go_simp; try rfl)); clear hK K; (try simp only [zU, qI, qX, qY]);refine QWk.want qC (fun K hK => ?_); refine qK ?_ (fun W hW => ?_) (hK _ ?_); rotate_left 1; (focus (skip; go_simp; try rfl)); clear hK K; (try simp only [zU, qI, qX, qY]);refine QWk.skip qC ?_; (try simp only [zU, qI, qX, qY]);refine QWk.skip qC ?_; (try simp only [zU, qI, qX, qY]);refine QWk.skip qC ?_; (try simp only [zU, qI, qX, qY]);refine QWk.skip qC ?_; (try simp only [zU, qI, qX, qY]);refine QWk.want qC (fun K hK => ?_); refine qK ?_ (fun W hW => ?_) (hK _ ?_); rotate_left 1; (focus (skip; go_simp; try rfl)); clear hK K; (try simp only [zU, qI, qX, qY]);refine QWk.want qC (fun K hK => ?_); refine qK ?_ (fun W hW => ?_) (hK _ ?_); rotate_left 1; (focus (skip; go_simp; try rfl)); clear hK K; (try simp only [zU, qI, qX, qY]);refine QWk.mk (wpQuiet_nil (fun X6 hstX6 => ?_));go_wp2_with fail;go_ret;exact ⟨by simp, H1.out.trans ((zW hb2 hstX6).mono hs1)⟩
def zFT (d : Doc) (ts : List ByteArray) (w : World) (e : Ending) (w' : World) : Prop := ∃ r, e = .returned (.bool r) ∧ (r = false → Sml d ∧ ∀ t ∈ ts, t.size ≤ 10000) ∧ Below w.heap.size w w'
set_option maxRecDepth 100000 in
theorem zKh (v : Value) (s : St) (ta : Option Addr) (ts : List ByteArray) (w : World) (S : Nat → Prop) (h : jC w S v s.lines) (sn : Sane s.lines) (hts : ts.length ≤ 10)
  (ht : ∀ i t, ts[i]? = some t → ∃ b o, ta = some ⟨b, o, none⟩ ∧ b < w.heap.size ∧ w.cell? ⟨b, o + i, none⟩ = some (.string t)) :
  Calls zV 5 #[stV v s, .slice ta ts.length ts.length] w (zFT s.lines ts w) := by
 obtain ⟨W1, hW1, hB, hz, k0⟩ := xC w v s;have HB : Hid (∀ W, Below W1.heap.size W1 W → W.heap[w.heap.size]? = some (.cells #[v, .int .i64 s.anc.line, .int .i64 s.anc.col, .int .i64 s.foc.line, .int .i64 s.foc.col, .int .i64 s.on, .int .i64 s.off] 26)) := zA fun W hW => jG hW k0;have HC := zA fun W (hW : Below W1.heap.size W1 W) => zJg v s.lines W S ((h.below (zZ _) hB).below (zZ _) hW) sn;have H1 := zA hB;have hs1 := hB.size
 have HT : Hid (∀ W, Below w.heap.size w W → ∀ i t, ts[i]? = some t → ∃ b o, ta = some ⟨b, o, none⟩ ∧ W.cell? ⟨b, o + i, none⟩ = some (.string t)) := zA fun W hW i t hi => by
  obtain ⟨b, o, h1, h2, h3⟩ := ht i t hi;exact ⟨b, o, h1, (hW.cell (p := ⟨b, o + i, none⟩) h2).trans h3⟩
 obtain ⟨p0, f0⟩ := blk k0;obtain ⟨va, vc, rfl⟩ := h.slice;clear h sn k0 hB ht;go_enter Tryz.func5, Tryz.ntmps5;go_wp2_with fail;go_loopw [5] (fun i wr => ∃ j : Nat, j ≤ ts.length ∧ i = .int .i64 j ∧ wr = W1 ∧ Hid (∀ t ∈ ts.take j, t.size ≤ 10000)) (fun i _ => ts.length - (intOf i).toNat)
 case atStart => exact ⟨0, by omega, rfl, rfl, zA qT⟩
 case round =>
  obtain ⟨j, hj, rfl, rfl, HT0⟩ := hrel
  by_cases hlt : j < ts.length
  ·obtain ⟨t, hjt, _⟩ := jJ ts j hlt
   obtain ⟨b, o, rfl, hc⟩ := HT.out _ H1.out j t hjt;have hlt' : (j : Int) < (ts.length : Int) := by omega
   have hj0 : (0 : Int) ≤ (j : Int) := zR _;have HJ := zA hjt
   by_cases hsz : 10000 < t.size
   ·have hsz' : (10000 : Int) < (t.size : Int) := by omega
    clear hsz hjt;go_wp2_with fail;go_ret;exact ⟨true, rfl, (fun e => by cases e), H1.out⟩
   ·have hsz' : ¬ (10000 : Int) < (t.size : Int) := by omega
    have HSZ := zA hsz;clear hsz hjt;go_wp2_with fail;go_roundw
    case rel => exact ⟨j + 1, by omega, by go_num, trivial, zA (fun x hx => by
     rw [xF HJ.out] at hx;rcases List.mem_append.1 hx with hx | hx
     ·exact HT0.out x hx
     ·simp at hx; subst hx; have := HSZ.out; omega)⟩
    case measure => simp [intOf]; omega
  ·obtain rfl : j = ts.length := by omega
   go_wp2_with (go_at_call 19; refine (HC.out _ (zE _ _)).mono ?_; rintro e w1 ⟨r, rfl, hr, hb⟩);go_ret;exact ⟨r, rfl, fun e => ⟨hr e, by have := HT0.out; rwa [List.take_length] at this⟩, H1.out.trans (hb.mono hs1)⟩
end Go.Proofs.YtjgeadoncanheaaGreatDoor
