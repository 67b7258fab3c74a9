/- The walk of the law QueryToggles. -/
import Derived.Test.YtcliojeoindceaaGreatDoorQuietWalkS
import Derived.Test.YtcliojeoindceaaGreatDoorQryPickS
import Derived.Test.YtcliojeoindceaaGreatDoorQryStateS
import Derived.Test.YtcliojeoindceaaGreatDoorQryArgsS
import Derived.Test.YtcliojeoindceaaGreatDoorLawQryAwakeS
set_option linter.unusedVariables false
set_option linter.unusedSimpArgs false
set_option maxHeartbeats 8000000
namespace Go.Proofs.Qw
open Go.RowKit Go.Proofs.YtcliojeoindceaaGreatDoor
theorem tog_pick (n : Nat) : ∃ (r k : Nat) (c : Cmd), n % 6 = r ∧ cmds[k]? = some c ∧ c.name.length ≤ 30 ∧ (∀ W : World, (W.alloc (.cells #[.string ⟨#[98, 111, 108, 100]⟩, .string ⟨#[105, 116, 97, 108, 105, 99]⟩, .string ⟨#[117, 110, 100, 101, 114, 108, 105, 110, 101]⟩, .string ⟨#[115, 116, 114, 105, 107, 101, 84, 104, 114, 111, 117, 103, 104]⟩, .string ⟨#[105, 110, 115, 101, 114, 116, 85, 110, 111, 114, 100, 101, 114, 101, 100, 76, 105, 115, 116]⟩, .string ⟨#[105, 110, 115, 101, 114, 116, 79, 114, 100, 101, 114, 101, 100, 76, 105, 115, 116]⟩] 9)).cell? ⟨W.heap.size, r, none⟩ = some (.string ⟨c.name.toArray⟩)) ∧ ((r ≤ 3 ∧ 5 ≤ k ∧ k ≤ 8) ∨ (3 < r ∧ (k = 15 ∨ k = 16))) := by
 have h : n % 6 < 6 := Nat.mod_lt _ (by decide)
 obtain ⟨r, hr⟩ : ∃ r, n % 6 = r := ⟨_, rfl⟩
 rw [hr] at h
 have e : r = 0 ∨ r = 1 ∨ r = 2 ∨ r = 3 ∨ r = 4 ∨ r = 5 := by omega
 clear h
 rcases e with rfl | rfl | rfl | rfl | rfl | rfl
 ·exact ⟨0, 5, _, hr, rfl, by decide, fun W => cell_of_heap (heap_new _ _ rfl), by omega⟩
 ·exact ⟨1, 6, _, hr, rfl, by decide, fun W => cell_of_heap (heap_new _ _ rfl), by omega⟩
 ·exact ⟨2, 7, _, hr, rfl, by decide, fun W => cell_of_heap (heap_new _ _ rfl), by omega⟩
 ·exact ⟨3, 8, _, hr, rfl, by decide, fun W => cell_of_heap (heap_new _ _ rfl), by omega⟩
 ·exact ⟨4, 15, _, hr, rfl, by decide, fun W => cell_of_heap (heap_new _ _ rfl), by omega⟩
 ·exact ⟨5, 16, _, hr, rfl, by decide, fun W => cell_of_heap (heap_new _ _ rfl), by omega⟩
theorem tog_err {s : St} (hm : mayS s = true) {k : Nat} {c : Cmd} (hc : cmds[k]? = some c) (hk : (5 ≤ k ∧ k ≤ 8) ∨ (k = 15 ∨ k = 16)) : (runQ s c.name []).2 = 0 ∨ (runQ s c.name []).2 = 7 := by
 unfold runQ
 rw [find_name hc]
 simp only
 rcases hk with hk | hk
 ·have hd : doQ s k [] = toggleS s (bitQ k) := by
   rw [doQ, if_neg (by omega), if_neg (by omega), if_neg (by omega), if_neg (by omega), if_neg (by omega), if_pos (by omega)]
  have hb : four (bitQ k) = true := by
   have : k = 5 ∨ k = 6 ∨ k = 7 ∨ k = 8 := by omega
   rcases this with rfl | rfl | rfl | rfl <;> decide
  rw [hd]
  by_cases h0 : (toggleS s (bitQ k)).2 = 0
  ·exact .inl h0
  ·exact .inr (toggle_err hm hb rfl h0).1
 ·have hd : doQ s k [] = listB ((k : Int) - 15) s := by
   rw [doQ, if_neg (by omega), if_neg (by omega), if_neg (by omega), if_neg (by omega), if_neg (by omega), if_neg (by omega), if_neg (by omega), if_neg (by omega), if_neg (by omega), if_neg (by omega), if_neg (by omega), if_neg (by omega)]
  have he : ∀ f, (eachB f s).2 = 0 ∨ (eachB f s).2 = 7 := fun f => by
   unfold eachB
   rw [if_pos hm]
   split
   ·exact .inl rfl
   ·exact .inr rfl
  rw [hd]
  unfold listB
  rw [if_neg (by omega)]
  split
  ·exact he _
  ·exact he _
end Go.Proofs.Qw
namespace Go.Proofs.YtcliojeoindceaaGreatDoor
open Go.RowKit
open Go.Proofs.Qw
attribute [local go_sem] Oper.semAt_some
open _root_.Go.Lib renaming hid → zA
open _root_.Go.Proofs.Tryz renaming prog → zV
open _root_.Go.Proofs.YtcliojeoindceaaGreatDoor renaming below_from → zX
open _root_.Go.Proofs.Qw renaming rdLin_stable → qB
set_option maxRecDepth 100000 in
theorem lawQyToggles_any (v : Value) (s : St) (x0 : Int) (w : World) (S : Nat → Prop) (h : LinsR w S v s.lines) (sn : Sane s.lines) (ho : -9223372036854775808 ≤ s.on ∧ s.on ≤ 9223372036854775807) (hof : -9223372036854775808 ≤ s.off ∧ s.off ≤ 9223372036854775807) (he : EnvT w) :
  Calls zV 5 #[stV v s, .int .i64 x0] w fun e w' => e = .returned (.bool true) ∧ Below w.heap.size w w' := by
 obtain ⟨n, hn, hN⟩ := and_nat x0
 obtain ⟨r, k, c, hr, hc, hcl, hcell, hrk⟩ := tog_pick n
 have hmod : (n : Int) % 6 = (r : Int) := by omega
 have htm : (n : Int).tmod 6 = (r : Int) := by rw [Int.tmod_eq_emod_of_nonneg (by omega)]; exact hmod
 have hr6 : r < 6 := by rw [← hr]; exact Nat.mod_lt _ (by decide)
 have HCell := zA hcell
 have HC := zA hc
 have HSm := zA hcl
 have HRK := zA hrk
 obtain ⟨W1, hW1, hB, hz, k0⟩ := one_st w v s
 have HB : Hid (∀ W, Below W1.heap.size W1 W → W.heap[w.heap.size]? = some (.cells #[v, .int .i64 s.anc.line, .int .i64 s.anc.col, .int .i64 s.foc.line, .int .i64 s.foc.col, .int .i64 s.on, .int .i64 s.off] 26)) := zA fun W hW => heap_below hW k0
 have hs1 := hB.size
 have H1 := zA hB
 have hw0 : Below W1.heap.size W1 W1 := Below.refl _ _
 have HV : Hid (∀ W, Below W1.heap.size W1 W → LinsR W S v s.lines) := zA fun W hW => h.below (qB _) (hB.trans (hW.mono hs1))
 have HE : Hid (∀ W, Below W1.heap.size W1 W → EnvT W) := zA fun W hW => (he.below hB).below hW
 have HA : Hid (∀ W, Below W1.heap.size W1 W → Calls zV 11 #[] W fun e w' => e = .returned (.bool true) ∧ Below W.heap.size W w') := zA fun W hW => awake26_any W (HE.out W hW)
 have HLo : Hid (∀ W, Below W1.heap.size W1 W → Calls zV 10 #[stV v s, .slice none 0 0] W (Long26Said s.lines [] W)) := zA fun W hW => long26_any v s none [] W S (HV.out W hW) sn (by simp) (fun i t hi => by cases hi)
 have HM : Hid (Small s.lines → ∀ W, Below W1.heap.size W1 W → Calls zV 23 #[stV v s] W fun e w' => e = .returned (.bool (mayS s)) ∧ Below W.heap.size W w') := zA fun hs W hW => stMay_any v s W S (HV.out W hW) (HE.out W hW) hs
 have HRG : Hid (mayS s = true → RngS s) := zA fun hm => rng_may hm ho hof
 obtain ⟨p0, f0⟩ := blk k0
 obtain ⟨va, vc, rfl⟩ := h.slice
 clear h sn he k0 hB hr hc hn hcl hrk ho hof hcell
 go_enter Tryz.func5, Tryz.ntmps5
 go_wp2_with fail
 refine (HLo.out _ hw0).mono ?_
 rintro e w1 ⟨rr, rfl, hr1, hb1⟩
 have HRS := zA hr1
 clear hr1 HLo p0 f0
 cases rr
 rotate_left 1
 ·go_wp2_with fail
  refine (HA.out _ hb1).mono ?_
  rintro e w2 ⟨rfl, hst2⟩
  go_wp2_with fail
  go_ret
  exact ⟨rfl, H1.out.trans ((zX hb1 hst2).mono hs1)⟩
 have HSz : Hid (Small s.lines ∧ Fits s.lines) := zA ⟨(HRS.out rfl).1.small, (HRS.out rfl).1.fits⟩
 obtain ⟨p0, f0⟩ := blk (HB.out _ hb1)
 go_wp2_with fail
 refine (HM.out HSz.out.1 _ hb1).mono ?_
 rintro e w2 ⟨rfl, hst2⟩
 have hb2 := zX hb1 hst2
 cases hm : mayS s
 ·go_wp2_with fail
  refine (HA.out _ hb2).mono ?_
  rintro e w3 ⟨rfl, hst3⟩
  go_wp2_with fail
  go_ret
  exact ⟨rfl, H1.out.trans ((zX hb2 hst3).mono hs1)⟩
 have HMy := zA hm
 have HRn := zA (HRG.out hm)
 have HSt : Hid (∀ W, Below W1.heap.size W1 W → Calls zV 17 #[stV (.slice va s.lines.length vc) s, .string ⟨c.name.toArray⟩] W fun e w' => e = .returned (.bool (stateQ s c.name)) ∧ Below W.heap.size W w') := zA fun W hW => qryState_any _ s ⟨c.name.toArray⟩ W S (HV.out W hW) (HE.out W hW) HSz.out.1 HSz.out.2 (by have := HSm.out; simp [ByteArray.size]; omega)
 have HDo : Hid (∀ W, Below W1.heap.size W1 W → Calls zV 13 #[stV (.slice va s.lines.length vc) s, .string ⟨c.name.toArray⟩, .string ⟨#[]⟩] W (StSaid (runQ s c.name []) W)) := zA fun W hW => qryDo_any _ s ⟨c.name.toArray⟩ ⟨#[]⟩ W S (HV.out W hW) (HE.out W hW) HSz.out.1 HSz.out.2 (by have := HSm.out; simp [ByteArray.size]; omega) (by simp [ByteArray.size])
 have HER := zA (tog_err hm HC.out (HRK.out.elim (fun h => .inl ⟨h.2.1, h.2.2⟩) (fun h => .inr h.2)))
 have HTG : Hid (∀ X, runQ s c.name [] = (X, 0) → (15 ≤ k → stateQ s c.name = false) → stateQ X c.name = !stateQ s c.name ∧ indetQ X c.name = false) := zA fun X hX hw => toggles HMy.out HRn.out (by have := HRK.out; omega) HC.out (by unfold runQ at hX; rw [find_name HC.out] at hX; exact hX) hw
 have HDN := zA (run_on hm (HRG.out hm) HC.out [])
 obtain ⟨X, hX⟩ : ∃ X, runQ s c.name [] = X := ⟨_, rfl⟩
 rw [hX] at HDo HER HDN HTG
 obtain ⟨X, ex⟩ := X
 obtain ⟨was, hwas⟩ : ∃ was, stateQ s c.name = was := ⟨_, rfl⟩
 rw [hwas] at HSt HTG
 clear hX hm hwas p0 f0 hst2 HRG HM
 obtain ⟨p0, f0⟩ := blk (HB.out _ hb2)
 obtain ⟨p1, f1⟩ := blk1 (HB.out _ hb2)
 have cN := HCell.out w2
 have hbN : ∀ o, Below W1.heap.size W1 (w2.alloc o) := fun o => below1 hb2 o
 have i6 : (r : Int) < 6 := by omega
 have i0 : (0 : Int) ≤ (r : Int) := Int.natCast_nonneg _
 go_upto_region 6 with (first
  | (go_at_call 17; (with_reducible refine (HSt.out _ (hbN _)).mono ?_); rintro e w3 ⟨rfl, hst3⟩; have hb3 := zX (hbN _) hst3; obtain ⟨p2, f2⟩ := blk (HB.out _ hb3))
  | (go_at_call 13; (with_reducible refine (HDo.out _ hb3).mono ?_); intro e w4 hsaid; obtain ⟨v4, rfl, hv4, hst4⟩ := hsaid; obtain ⟨x4, y4, hve4⟩ := hv4.slice; subst hve4; have hb4 := zX hb3 hst4; have HV4 := zA hv4; clear hv4))
 obtain ⟨m4, hm4⟩ : ∃ m4, w4.alloc (.cells #[.slice x4 X.lines.length y4, .int .i64 X.anc.line, .int .i64 X.anc.col, .int .i64 X.foc.line, .int .i64 X.foc.col, .int .i64 X.on, .int .i64 X.off] 26) = m4 := ⟨_, rfl⟩
 rw [hm4]
 have hbm4 : Below w4.heap.size w4 m4 := hm4 ▸ below1 (Below.refl _ _) _
 have n4 : m4.heap[w4.heap.size]? = some (.cells #[.slice x4 X.lines.length y4, .int .i64 X.anc.line, .int .i64 X.anc.col, .int .i64 X.foc.line, .int .i64 X.foc.col, .int .i64 X.on, .int .i64 X.off] 26) := hm4 ▸ heap_new _ _ rfl
 have hc4 := zX hb4 hbm4
 have HD4 := zA ((DocR.read HV4.out).below (qB _) hbm4)
 have HK : Hid (∀ W, Below m4.heap.size m4 W → W.heap[w4.heap.size]? = some (.cells #[.slice x4 X.lines.length y4, .int .i64 X.anc.line, .int .i64 X.anc.col, .int .i64 X.foc.line, .int .i64 X.foc.col, .int .i64 X.on, .int .i64 X.off] 26)) := zA fun W hW => heap_below hW n4
 clear hm4 hbm4 p0 f0 p1 f1 p2 f2 cN hbN HV4 n4
 rcases HER.out with h0 | h7
 ·replace h0 : ex = 0 := h0
  subst h0
  have hmx : mayS X = true := by
   rcases HDN.out with ⟨_, h, _⟩ | ⟨_, h⟩
   ·exact h
   ·exact absurd h (by simp)
  have hsx := may_small (mayS_at hmx).1
  by_cases hr3 : 3 < r
  ·have i3 : (3 : Int) < (r : Int) := by omega
   cases was
   ·have hT := HTG.out X rfl (fun _ => rfl)
    have HSX := zA (qryState_any (.slice x4 X.lines.length y4) X ⟨c.name.toArray⟩ m4 _ HD4.out (HE.out _ hc4) hsx.1 hsx.2 (by have := HSm.out; simp [ByteArray.size]; omega))
    have HIX : Hid (∀ W, Below m4.heap.size m4 W → Calls zV 19 #[stV (.slice x4 X.lines.length y4) X, .string ⟨c.name.toArray⟩] W fun e w' => e = .returned (.bool (indetQ X c.name)) ∧ Below W.heap.size W w') := zA fun W hW => qryIndet_any (.slice x4 X.lines.length y4) X ⟨c.name.toArray⟩ W _ (HD4.out.below (qB _) hW) (HE.out _ (zX hc4 hW)) hsx.1 hsx.2 (by have := HSm.out; simp [ByteArray.size]; omega)
    have e1 : stateQ X (⟨c.name.toArray⟩ : ByteArray).data.toList = true := hT.1
    rw [e1] at HSX
    rw [hT.2] at HIX
    clear hT hmx hsx e1
    obtain ⟨p0, f0⟩ := blk (HK.out _ (Below.refl _ _))
    go_wp2_with (first
     | (go_at_call 17; (with_reducible refine HSX.out.mono ?_); rintro e w5 ⟨rfl, hst5⟩; have hb5 := zX hc4 hst5; obtain ⟨p1, f1⟩ := blk (HK.out _ hst5))
     | (go_at_call 19; (with_reducible refine (HIX.out _ hst5).mono ?_); rintro e w6 ⟨rfl, hst6⟩; have hb6 := zX hb5 hst6)
     | (go_at_call 11; (with_reducible refine (HA.out _ hb6).mono ?_); rintro e w7 ⟨rfl, hst7⟩; have hb7 := zX hb6 hst7))
    go_ret
    exact ⟨rfl, H1.out.trans (hb7.mono hs1)⟩
   ·go_wp2_with (go_at_call 11; (with_reducible refine (HA.out _ hc4).mono ?_); rintro e w7 ⟨rfl, hst7⟩; have hb7 := zX hc4 hst7)
    go_ret
    exact ⟨rfl, H1.out.trans (hb7.mono hs1)⟩
  ·have i3 : ¬ (3 : Int) < (r : Int) := by omega
   have hT := HTG.out X rfl (fun h => by have := HRK.out; omega)
   have HSX := zA (qryState_any (.slice x4 X.lines.length y4) X ⟨c.name.toArray⟩ m4 _ HD4.out (HE.out _ hc4) hsx.1 hsx.2 (by have := HSm.out; simp [ByteArray.size]; omega))
   have HIX : Hid (∀ W, Below m4.heap.size m4 W → Calls zV 19 #[stV (.slice x4 X.lines.length y4) X, .string ⟨c.name.toArray⟩] W fun e w' => e = .returned (.bool (indetQ X c.name)) ∧ Below W.heap.size W w') := zA fun W hW => qryIndet_any (.slice x4 X.lines.length y4) X ⟨c.name.toArray⟩ W _ (HD4.out.below (qB _) hW) (HE.out _ (zX hc4 hW)) hsx.1 hsx.2 (by have := HSm.out; simp [ByteArray.size]; omega)
   have e1 : stateQ X (⟨c.name.toArray⟩ : ByteArray).data.toList = !was := hT.1
   rw [e1] at HSX
   rw [hT.2] at HIX
   clear hT hmx hsx e1
   obtain ⟨p0, f0⟩ := blk (HK.out _ (Below.refl _ _))
   cases was
   all_goals
    go_wp2_with (first
     | (go_at_call 17; (with_reducible refine HSX.out.mono ?_); rintro e w5 ⟨rfl, hst5⟩; have hb5 := zX hc4 hst5; obtain ⟨p1, f1⟩ := blk (HK.out _ hst5))
     | (go_at_call 19; (with_reducible refine (HIX.out _ hst5).mono ?_); rintro e w6 ⟨rfl, hst6⟩; have hb6 := zX hb5 hst6)
     | (go_at_call 11; (with_reducible refine (HA.out _ hb6).mono ?_); rintro e w7 ⟨rfl, hst7⟩; have hb7 := zX hb6 hst7))
    go_ret
    exact ⟨rfl, H1.out.trans (hb7.mono hs1)⟩
 ·replace h7 : ex = 7 := h7
  subst h7
  go_wp2_with (go_at_call 11; (with_reducible refine (HA.out _ hc4).mono ?_); rintro e w7 ⟨rfl, hst7⟩; have hb7 := zX hc4 hst7)
  go_ret
  exact ⟨rfl, H1.out.trans (hb7.mono hs1)⟩
end Go.Proofs.YtcliojeoindceaaGreatDoor
