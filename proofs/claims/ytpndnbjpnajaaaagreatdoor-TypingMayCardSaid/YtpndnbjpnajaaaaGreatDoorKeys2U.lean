/- Characters: chars.plain, each, Clean; the reference's Clean. -/
import Derived.Test.YtpndnbjpnajaaaaGreatDoorRefTargetU
import Derived.Test.YtpndnbjpnajaaaaGreatDoorAttrWalkU
import Derived.Test.YtpndnbjpnajaaaaGreatDoorDocPartU
import Derived.Test.YtpndnbjpnajaaaaGreatDoorKeys1U
import Derived.Lib.OthersKept
import Derived.Lib.RuneCount
import Derived.Test.YtpndnbjpnajaaaaGreatDoorStyStaysU
import Derived.Test.YtpndnbjpnajaaaaGreatDoorStyBitsU
import Derived.Test.YtpndnbjpnajaaaaGreatDoorStIsU
set_option linter.unusedVariables false
set_option linter.unusedSimpArgs false
namespace Go.Proofs.Qw
open Go.RowKit Go.Proofs.YtpndnbjpnajaaaaGreatDoor
def plainF (c : Int) : Int × Bool := if c = 9 ∨ c = 12 ∨ c = 13 then (32, true) else if c = 10 then (c, true) else (c, !(classF c == 1))
theorem plain_clean (c : Int) : (if (plainF c).2 = true then some (plainF c).1 else none) = cleanR c := by
 unfold plainF cleanR
 split
 ·rfl
 ·split
  ·rename_i h; subst h; rfl
  ·by_cases h : classF c = 1
   ·rw [if_pos h]; simp [h]
   ·rw [if_neg h]; simp [h]
def cleanG (c : Int) : Int := if c = 9 ∨ c = 12 ∨ c = 13 then 32 else c
theorem clean_ref {c : Int} (h0 : classF c ≠ 0) : cleanR c = if (mayR (cleanG c) || cleanG c == 10) = true then some (cleanG c) else none := by
 have hge := classF_ge c
 unfold cleanR cleanG
 split
 ·have : mayR 32 = true := by unfold mayR; rw [classF_32]; rfl
  rw [this]; rfl
 ·split
  ·rename_i h; subst h; simp
  ·rename_i h10
   unfold mayR
   by_cases h : classF c = 1
   ·rw [if_pos h]; simp [h, h10]
   ·rw [if_neg h]
    have h2 : 1 < classF c := by omega
    simp [h2]
end Go.Proofs.Qw
namespace Go.Proofs.YtpndnbjpnajaaaaGreatDoor
open Go.RowKit
open Go.Proofs.Qw
attribute [local go_sem] Oper.semAt_some
theorem rowRune : RowT Tryz.prog 59 21 1 := RowT.mk' (y := 4) Tryz.underlying59 (by kernel_rfl) (by decide) (z := .int .i32 0) (by decide)
theorem eltRune : Elt 21 1 (rdOf encRune) := elt_of _ (by decide) (fun _ => rfl) (fun x u hu => by simp [encRune] at hu; subst hu; rfl)
theorem oneV_rune (r : Int) : ∀ u ∈ [Value.int .i32 r], u.oneCell' = true := fun u hu => by simp at hu; subst hu; rfl
theorem plain_any (c : Int) (w : World) :
  Calls Tryz.prog 138 #[.int .i32 c] w fun e w' => e = .returned (.tuple #[.int .i32 (plainF c).1, .bool (plainF c).2]) ∧ w' = w := by
 have HC := Lib.hid (class_any c w)
 by_cases h9 : c = 9
 ·subst h9
  clear HC
  go_enter Tryz.func138, Tryz.ntmps138
  go_wp2_with fail
  go_ret2
  rw [show plainF 9 = (32, true) from if_pos (by decide)]
  exact ⟨rfl, rfl⟩
 by_cases h12 : c = 12
 ·subst h12
  clear HC
  go_enter Tryz.func138, Tryz.ntmps138
  go_wp2_with fail
  go_ret2
  rw [show plainF 12 = (32, true) from if_pos (by decide)]
  exact ⟨rfl, rfl⟩
 by_cases h13 : c = 13
 ·subst h13
  clear HC
  go_enter Tryz.func138, Tryz.ntmps138
  go_wp2_with fail
  go_ret2
  rw [show plainF 13 = (32, true) from if_pos (by decide)]
  exact ⟨rfl, rfl⟩
 by_cases h10 : c = 10
 ·subst h10
  clear HC
  go_enter Tryz.func138, Tryz.ntmps138
  go_wp2_with fail
  go_ret2
  rw [show plainF 10 = (10, true) from (if_neg (by decide)).trans (if_pos rfl)]
  exact ⟨rfl, rfl⟩
 have HR : Hid (plainF c = (c, !(classF c == 1))) := Lib.hid (by unfold plainF; rw [if_neg (by omega), if_neg h10])
 have b9 : (c == 9) = false := by simpa using h9
 have b12 : (c == 12) = false := by simpa using h12
 have b13 : (c == 13) = false := by simpa using h13
 have b10 : (c == 10) = false := by simpa using h10
 clear h9 h12 h13 h10
 generalize classF c = k at *
 go_enter Tryz.func138, Tryz.ntmps138
 go_wp2_with (go_at_call 202; refine HC.out.mono ?_; rintro e w' ⟨rfl, rfl⟩)
 go_ret2
 rw [HR.out]
 exact ⟨rfl, rfl⟩
theorem runesGo_width (s : ByteArray) : ∀ (f pos : Nat), (runesGo s f pos).length ≤ f
 | 0, _ => Nat.le_refl _
 | f + 1, pos => by
  unfold runesGo
  split
  ·have := runesGo_width s f (pos + (Utf8.decode s pos).2)
   rw [List.length_cons]; omega
  ·simp
theorem runesB_length (s : ByteArray) : (runesB s).length ≤ s.size := runesGo_width s _ _
set_option maxRecDepth 100000 in
set_option maxHeartbeats 4000000 in
theorem each_any (s : ByteArray) (g : Nat) (F : Int → Int × Bool) (eg : ∀ args w, (callFunc g args).run Tryz.prog w = .ok (.enter g args) w)
  (hF : ∀ c w, Calls Tryz.prog g #[.int .i32 c] w fun e w' => e = .returned (.tuple #[.int .i32 (F c).1, .bool (F c).2]) ∧ w' = w) (w : World) (hs : s.size ≤ 10000000) :
  Calls Tryz.prog 137 #[.string s, .func (.func g) #[] #[]] w fun e w' => ∃ v, e = .returned v ∧ RunesR true w' (fun b => w.heap.size ≤ b) v ((runesB s).filterMap fun c => if (F c).2 = true then some (F c).1 else none) ∧ Below w.heap.size w w' := by
 obtain ⟨G, hG⟩ : ∃ G : Int → Option Int, (fun c => if (F c).2 = true then some (F c).1 else none) = G := ⟨_, rfl⟩
 have HG : Hid (∀ c, G c = if (F c).2 = true then some (F c).1 else none) := Lib.hid fun c => by rw [← hG]
 rw [hG]
 have HF := Lib.hid hF
 clear hG hF
 go_enter Tryz.func137, Tryz.ntmps137
 go_wp2_with fail
 go_loopw [5] (fun l wr => ∃ (pos fuel : Nat) (acc : List Int), Hid (RunesR true wr (fun b => w.heap.size + 1 ≤ b) l acc) ∧ wr.heap[w.heap.size]? = some (.stringIter s pos) ∧ Hid (Below w.heap.size w wr) ∧ Hid (acc ++ (runesGo s fuel pos).filterMap G = (runesB s).filterMap G) ∧ s.size ≤ pos + fuel) (fun _ wr => s.size - wr.iterPos w.heap.size)
 case atStart => exact ⟨0, s.size, [], Lib.hid (SliceR.nil _ _ _ _ _ _), World.iter_heap w s 0, Lib.hid ((Below.refl _ _).alloc (Nat.le_refl _) _), Lib.hid rfl, by omega⟩
 case round =>
  obtain ⟨pos, fuel, acc, HO, hit, HB, HA, hfu⟩ := hrel
  have hsz : w.heap.size < wr.heap.size := (Array.getElem?_eq_some_iff.1 hit).1
  by_cases hp : pos < s.size
  ·have hwd := Lib.decode_width_pos s pos hp
   have hd1 := decode_le s pos
   have hnx : ∀ ty, (Instr.next (.pointer (some ⟨w.heap.size, 0, none⟩)) true ty).run Tryz.prog wr = .ok (.tuple #[.bool true, .int .i64 pos, .int .i32 (Utf8.decode s pos).1]) (wr.iterAt w.heap.size s (pos + (Utf8.decode s pos).2)) := fun ty => Lib.run_next_any_at wr w.heap.size s pos ty hit hp
   have hit2 := Lib.iterAt_heap wr w.heap.size s pos (pos + (Utf8.decode s pos).2) hit
   have hbw2 := Lib.below_iterAt HB.out (k := w.heap.size) (Nat.le_refl _) s (pos + (Utf8.decode s pos).2)
   have hsz2 : (wr.iterAt w.heap.size s (pos + (Utf8.decode s pos).2)).heap.size = wr.heap.size := Lib.iterAt_size _ _ _ _
   have HO2 := Lib.hid (SliceR.stable (w' := wr.iterAt w.heap.size s (pos + (Utf8.decode s pos).2)) (S' := fun b => w.heap.size + 1 ≤ b) (rdOf_stable encRune) HO.out (Keeps.only (b := w.heap.size) hsz2 (fun d hd => Lib.iterAt_other _ _ _ _ _ hd) (by simp)) (fun _ h _ => h))
   obtain ⟨f, rfl⟩ : ∃ f, fuel = f + 1 := ⟨fuel - 1, by omega⟩
   have HA2 : Hid (acc ++ (((Utf8.decode s pos).1 : Int) :: runesGo s f (pos + (Utf8.decode s pos).2)).filterMap G = (runesB s).filterMap G) := Lib.hid (by have := HA.out; unfold runesGo at this; rw [if_pos hp] at this; exact this)
   obtain ⟨wi, hwi⟩ : ∃ wi, wr.iterAt w.heap.size s (pos + (Utf8.decode s pos).2) = wi := ⟨_, rfl⟩
   rw [hwi] at hnx hit2 hbw2 hsz2 HO2
   obtain ⟨c, hcc⟩ : ∃ c : Int, ((Utf8.decode s pos).1 : Int) = c := ⟨_, rfl⟩
   rw [hcc] at hnx HA2
   obtain ⟨pos', hpp⟩ : ∃ pos', pos + (Utf8.decode s pos).2 = pos' := ⟨_, rfl⟩
   have hpl : pos + 1 ≤ pos' := by omega
   rw [hpp] at hit2 HA2
   obtain ⟨r, t, hrt⟩ : ∃ r t, F c = (r, t) := ⟨_, _, rfl⟩
   have HFc : Hid (∀ W, Calls Tryz.prog g #[.int .i32 c] W fun e w' => e = .returned (.tuple #[.int .i32 r, .bool t]) ∧ w' = W) := Lib.hid fun W => by
    have := HF.out c W
    rw [hrt] at this
    exact this
   have hGc := HG.out c
   rw [hrt] at hGc
   have hm1 : (wi.iterPos w.heap.size) = pos' := by simp only [World.iterPos, hit2]
   have hm0 : (wr.iterPos w.heap.size) = pos := by simp only [World.iterPos, hit]
   have HB2 := Lib.hid hbw2
   have HIT := Lib.hid hit2
   have hlw : w.heap.size < wi.heap.size := (Array.getElem?_eq_some_iff.1 hit2).1
   have HM := Lib.hid (And.intro hm0 hm1)
   clear hit hit2 hbw2 HB HA HO HF HG hcc hpp hwi hrt hd1 hwd hm0 hm1 hsz2
   cases t
   ·have HA3 : Hid (acc ++ (runesGo s f pos').filterMap G = (runesB s).filterMap G) := Lib.hid (by have := HA2.out; rw [List.filterMap_cons, hGc] at this; exact this)
    clear hGc
    go_wp2_with (go_at_fn g; refine (HFc.out _).mono ?_; rintro e w1 ⟨rfl, rfl⟩)
    go_roundw
    case rel => exact ⟨pos', f, acc, HO2, HIT.out, HB2, HA3, by omega⟩
    case measure => rw [HM.out.1, HM.out.2]; omega
   ·have HA3 : Hid ((acc ++ [r]) ++ (runesGo s f pos').filterMap G = (runesB s).filterMap G) := Lib.hid (by have := HA2.out; rw [List.filterMap_cons, hGc] at this; simpa using this)
    have HL : Hid (acc.length + 1 ≤ 10000000) := Lib.hid (by
     have h1 := congrArg List.length HA3.out
     have h2 := List.length_filterMap_le G (runesB s)
     have h3 := runesB_length s
     simp only [List.length_append, List.length_singleton] at h1
     omega)
    clear hGc
    go_wp2_with (first
     | (go_at_fn g; refine (HFc.out _).mono ?_; rintro e w1 ⟨rfl, rfl⟩)
     | (at_builtin; refine wpList_append_R _ rfl _ _ 59 59 rfl rowRune eltRune (w.heap.size + 1) _ _ (xs := acc) (ys := [r]) (news := [.int .i32 r]) rfl rfl (SliceR.below (rdOf_stable _) HO2.out ((Below.refl _ _).alloc (Nat.le_refl _) _)) (by simp; omega) (src_at rowRune _ _ rfl (oneV_rune r) 1 rfl) (NewsR.one rfl rfl) (by have := HL.out; simp only [List.length_singleton]; omega) ?_; intro v' w2 hR hB' _ _; have HR := Lib.hid hR; have HB' := Lib.hid hB'; clear hR hB'))
    have hi2 := (HB'.out.block w.heap.size (Nat.lt_succ_self _)).trans (heap_old _ _ HIT.out)
    go_roundw
    case rel => exact ⟨pos', f, acc ++ [r], HR, hi2, Lib.hid ((HB2.out.alloc HB2.out.size _).trans (HB'.out.mono (Nat.le_succ _))), HA3, by omega⟩
    case measure => rw [HM.out.1]; simp only [World.iterPos, hi2]; omega
  ·have hnx : ∀ ty, (Instr.next (.pointer (some ⟨w.heap.size, 0, none⟩)) true ty).run Tryz.prog wr = .ok (.tuple #[.bool false]) wr := fun ty => Lib.run_next_end_at wr w.heap.size s pos ty hit hp
   have HA2 : Hid (acc = (runesB s).filterMap G) := Lib.hid (by
    have := HA.out
    cases fuel with
    | zero => simpa [runesGo] using this
    | succ f => unfold runesGo at this; rw [if_neg hp] at this; simpa using this)
   clear HF HG HA hit
   go_wp2_with fail
   go_ret
   refine ⟨_, rfl, ?_, HB.out⟩
   rw [← HA2.out]
   exact SliceR.stable (rdOf_stable _) HO.out (Keeps.refl _ _) (fun b h _ => Nat.le_of_succ_le h)
theorem clean_any (s : ByteArray) (w : World) (hs : s.size ≤ 10000000) :
  Calls Tryz.prog 61 #[.string s] w fun e w' => ∃ v, e = .returned v ∧ RunesR true w' (fun b => w.heap.size ≤ b) v (cleanB s) ∧ Below w.heap.size w w' := by
 have HE := Lib.hid (each_any s 138 plainF (enters_of Tryz.func138 (by kernel_rfl) rfl) plain_any w hs)
 have e : (fun c => if (plainF c).2 = true then some (plainF c).1 else none) = cleanR := funext plain_clean
 rw [e] at HE
 clear e
 go_enter Tryz.func61, Tryz.ntmps61
 go_wp2_with (go_at_call 137; refine HE.out.mono ?_; rintro e w2 ⟨v, rfl, hv, hb⟩)
 go_ret
 exact ⟨_, rfl, hv, hb⟩
set_option maxRecDepth 100000 in
set_option maxHeartbeats 4000000 in
theorem refClean_any (s : ByteArray) (w : World) (hs : s.size ≤ 10000000) :
  Calls Tryz.prog 196 #[.string s] w fun e w' => ∃ v, e = .returned v ∧ RunesR true w' (fun b => w.heap.size ≤ b) v (cleanB s) ∧ Below w.heap.size w w' := by
 have HRu := Lib.hid (refRunes_any s w hs)
 have HV := Lib.hid (classF_runes s)
 have hln := runesB_length s
 obtain ⟨d, hd⟩ : ∃ d, runesB s = d := ⟨_, rfl⟩
 have HD : Hid (cleanB s = d.filterMap cleanR) := Lib.hid (by unfold cleanB; rw [hd])
 rw [hd] at HRu HV hln
 rw [HD.out]
 clear hd HD
 go_enter Tryz.func196, Tryz.ntmps196
 go_wp2_with (go_at_call 228; refine HRu.out.mono ?_; rintro e w2 ⟨v2, rfl, hv2, hb2⟩; obtain ⟨a2, c2, rfl, hc2, hm2, hx2⟩ := runes_shape hv2; have HX := Lib.hid hx2; clear hv2 hx2)
 have HW2 := Lib.hid hb2
 unfold maxLen at hm2
 clear hb2
 go_loopw [3, 5] (fun out z wr => ∃ k : Nat, k ≤ d.length ∧ z = .int .i64 k ∧ Hid (RunesR true wr (fun b => w2.heap.size ≤ b) out ((d.take k).filterMap cleanR)) ∧ Below w2.heap.size w2 wr) (fun _ z _ => d.length - (intOf z).toNat)
 case atStart => exact ⟨0, Nat.zero_le _, rfl, Lib.hid (SliceR.nil _ _ _ _ _ _), Below.refl _ _⟩
 case round =>
  obtain ⟨k, hk, rfl, HO, hb⟩ := hrel
  by_cases hlt : k < d.length
  ·obtain ⟨x, hx, _⟩ := getOf d k hlt
   obtain ⟨b1, o1, rfl, hz1, hcell⟩ := HX.out k x hx
   have hcl := (hb.cell hz1).trans hcell
   have hcr := clean_ref (HV.out x (List.mem_of_getElem? hx))
   have hTk : (d.take (k + 1)).filterMap cleanR = (d.take k).filterMap cleanR ++ [x].filterMap cleanR := by rw [take_some hx, List.filterMap_append]
   have HL : Hid (((d.take k).filterMap cleanR).length ≤ 10000000) := Lib.hid (Nat.le_trans (List.length_filterMap_le _ _) (by rw [List.length_take]; omega))
   have HCM : Hid (∀ c W, Calls Tryz.prog 229 #[.int .i32 c] W fun e w' => e = .returned (.bool (mayR c)) ∧ w' = W) := Lib.hid fun c W => refCharMay_any c W
   have i0 : (0 : Int) ≤ (k : Int) := Int.natCast_nonneg _
   have i1 : (k : Int) < (d.length : Int) := by omega
   have hbs := hb.size
   have hT1 : ∀ y, cleanR x = some y → (d.take (k + 1)).filterMap cleanR = (d.take k).filterMap cleanR ++ [y] := fun y h => by rw [hTk]; simp [h]
   have hT0 : cleanR x = none → (d.take (k + 1)).filterMap cleanR = (d.take k).filterMap cleanR := fun h => by rw [hTk]; simp [h]
   clear hx hz1 hcell HV hTk
   rcases (show x = 9 ∨ x = 12 ∨ x = 13 ∨ (x ≠ 9 ∧ x ≠ 12 ∧ x ≠ 13) by omega) with rfl | rfl | rfl | ⟨h9, h12, h13⟩
   ·have HT := Lib.hid (hT1 32 (if_pos (by decide)))
    have HM2 : Hid (∀ W, Calls Tryz.prog 229 #[.int .i32 32] W fun e w' => e = .returned (.bool true) ∧ w' = W) := Lib.hid fun W => by
     have := HCM.out 32 W
     rw [show mayR 32 = true by unfold mayR; rw [classF_32]; rfl] at this
     exact this
    clear hT1 hT0 hcr HCM
    go_wp2_with (first | (go_at_call 229; refine (HM2.out _).mono ?_; rintro e w3 ⟨rfl, rfl⟩) | (at_builtin; refine wpList_append_R _ rfl _ _ 59 59 rfl rowRune eltRune w2.heap.size _ _ (xs := (d.take k).filterMap cleanR) (ys := [32]) (news := [.int .i32 (32)]) rfl rfl (SliceR.below (rdOf_stable _) HO.out ((Below.refl _ _).alloc (Nat.le_refl _) _)) (by simp; omega) (src_at rowRune _ _ rfl (oneV_rune (32)) 1 rfl) (NewsR.one rfl rfl) (by have := HL.out; simp only [List.length_singleton]; omega) ?_; intro v' w4 hR hB' _ _; rw [← HT.out] at hR; have HR := Lib.hid hR; have HB' := Lib.hid hB'; clear hR hB'))
    go_roundw
    case rel => exact ⟨k + 1, hlt, by go_num, HR, (hb.alloc hbs _).trans HB'.out⟩
    case measure => simp [intOf]; omega
   ·have HT := Lib.hid (hT1 32 (if_pos (by decide)))
    have HM2 : Hid (∀ W, Calls Tryz.prog 229 #[.int .i32 32] W fun e w' => e = .returned (.bool true) ∧ w' = W) := Lib.hid fun W => by
     have := HCM.out 32 W
     rw [show mayR 32 = true by unfold mayR; rw [classF_32]; rfl] at this
     exact this
    clear hT1 hT0 hcr HCM
    go_wp2_with (first | (go_at_call 229; refine (HM2.out _).mono ?_; rintro e w3 ⟨rfl, rfl⟩) | (at_builtin; refine wpList_append_R _ rfl _ _ 59 59 rfl rowRune eltRune w2.heap.size _ _ (xs := (d.take k).filterMap cleanR) (ys := [32]) (news := [.int .i32 (32)]) rfl rfl (SliceR.below (rdOf_stable _) HO.out ((Below.refl _ _).alloc (Nat.le_refl _) _)) (by simp; omega) (src_at rowRune _ _ rfl (oneV_rune (32)) 1 rfl) (NewsR.one rfl rfl) (by have := HL.out; simp only [List.length_singleton]; omega) ?_; intro v' w4 hR hB' _ _; rw [← HT.out] at hR; have HR := Lib.hid hR; have HB' := Lib.hid hB'; clear hR hB'))
    go_roundw
    case rel => exact ⟨k + 1, hlt, by go_num, HR, (hb.alloc hbs _).trans HB'.out⟩
    case measure => simp [intOf]; omega
   ·have HT := Lib.hid (hT1 32 (if_pos (by decide)))
    have HM2 : Hid (∀ W, Calls Tryz.prog 229 #[.int .i32 32] W fun e w' => e = .returned (.bool true) ∧ w' = W) := Lib.hid fun W => by
     have := HCM.out 32 W
     rw [show mayR 32 = true by unfold mayR; rw [classF_32]; rfl] at this
     exact this
    clear hT1 hT0 hcr HCM
    go_wp2_with (first | (go_at_call 229; refine (HM2.out _).mono ?_; rintro e w3 ⟨rfl, rfl⟩) | (at_builtin; refine wpList_append_R _ rfl _ _ 59 59 rfl rowRune eltRune w2.heap.size _ _ (xs := (d.take k).filterMap cleanR) (ys := [32]) (news := [.int .i32 (32)]) rfl rfl (SliceR.below (rdOf_stable _) HO.out ((Below.refl _ _).alloc (Nat.le_refl _) _)) (by simp; omega) (src_at rowRune _ _ rfl (oneV_rune (32)) 1 rfl) (NewsR.one rfl rfl) (by have := HL.out; simp only [List.length_singleton]; omega) ?_; intro v' w4 hR hB' _ _; rw [← HT.out] at hR; have HR := Lib.hid hR; have HB' := Lib.hid hB'; clear hR hB'))
    go_roundw
    case rel => exact ⟨k + 1, hlt, by go_num, HR, (hb.alloc hbs _).trans HB'.out⟩
    case measure => simp [intOf]; omega
   ·have hG : cleanG x = x := if_neg (by omega)
    rw [hG] at hcr
    have b9 : (x == 9) = false := by simpa using h9
    have b12 : (x == 12) = false := by simpa using h12
    have b13 : (x == 13) = false := by simpa using h13
    have HM2 : Hid (∀ W, Calls Tryz.prog 229 #[.int .i32 x] W fun e w' => e = .returned (.bool (mayR x)) ∧ w' = W) := Lib.hid fun W => HCM.out x W
    clear HCM hG h9 h12 h13
    generalize mayR x = m at *
    cases m
    ·by_cases h10 : x = 10
     ·subst h10
      have HT := Lib.hid (hT1 10 (hcr.trans (if_pos rfl)))
      clear hT1 hT0 hcr
      go_wp2_with (first | (go_at_call 229; refine (HM2.out _).mono ?_; rintro e w3 ⟨rfl, rfl⟩) | (at_builtin; refine wpList_append_R _ rfl _ _ 59 59 rfl rowRune eltRune w2.heap.size _ _ (xs := (d.take k).filterMap cleanR) (ys := [10]) (news := [.int .i32 (10)]) rfl rfl (SliceR.below (rdOf_stable _) HO.out ((Below.refl _ _).alloc (Nat.le_refl _) _)) (by simp; omega) (src_at rowRune _ _ rfl (oneV_rune (10)) 1 rfl) (NewsR.one rfl rfl) (by have := HL.out; simp only [List.length_singleton]; omega) ?_; intro v' w4 hR hB' _ _; rw [← HT.out] at hR; have HR := Lib.hid hR; have HB' := Lib.hid hB'; clear hR hB'))
      go_roundw
      case rel => exact ⟨k + 1, hlt, by go_num, HR, (hb.alloc hbs _).trans HB'.out⟩
      case measure => simp [intOf]; omega
     ·have b10 : (x == 10) = false := by simpa using h10
      have HT := Lib.hid (hT0 (hcr.trans (if_neg (by rw [b10]; decide))))
      clear hT1 hT0 hcr h10
      go_wp2_with (first | (go_at_call 229; refine (HM2.out _).mono ?_; rintro e w3 ⟨rfl, rfl⟩))
      go_roundw
      case rel => exact ⟨k + 1, hlt, by go_num, by rw [HT.out]; exact HO, hb⟩
      case measure => simp [intOf]; omega
    ·have HT := Lib.hid (hT1 x (hcr.trans (if_pos rfl)))
     clear hT1 hT0 hcr
     go_wp2_with (first | (go_at_call 229; refine (HM2.out _).mono ?_; rintro e w3 ⟨rfl, rfl⟩) | (at_builtin; refine wpList_append_R _ rfl _ _ 59 59 rfl rowRune eltRune w2.heap.size _ _ (xs := (d.take k).filterMap cleanR) (ys := [x]) (news := [.int .i32 (x)]) rfl rfl (SliceR.below (rdOf_stable _) HO.out ((Below.refl _ _).alloc (Nat.le_refl _) _)) (by simp; omega) (src_at rowRune _ _ rfl (oneV_rune (x)) 1 rfl) (NewsR.one rfl rfl) (by have := HL.out; simp only [List.length_singleton]; omega) ?_; intro v' w4 hR hB' _ _; rw [← HT.out] at hR; have HR := Lib.hid hR; have HB' := Lib.hid hB'; clear hR hB'))
     go_roundw
     case rel => exact ⟨k + 1, hlt, by go_num, HR, (hb.alloc hbs _).trans HB'.out⟩
     case measure => simp [intOf]; omega
  ·obtain rfl : k = d.length := by omega
   have HBB := Lib.hid hb
   clear hb
   go_wp2_with fail
   go_ret
   have h9 := HO.out
   rw [List.take_length] at h9
   exact ⟨_, rfl, SliceR.stable (rdOf_stable _) h9 (Keeps.refl _ _) (fun b h _ => Nat.le_trans HW2.out.size h), below_from HW2.out HBB.out⟩
set_option maxRecDepth 100000 in
set_option maxHeartbeats 4000000 in
theorem cellsOf_any (s : ByteArray) (b : Int) (h : List UInt8) (w : World) (hs : s.size ≤ 10000000) :
  Calls Tryz.prog 128 #[.string s, .int .i64 b, .string ⟨h.toArray⟩] w fun e w' => ∃ v, e = .returned v ∧ CelsR true w' (fun b => w.heap.size ≤ b) v (cellsOf (cleanB s) b h) ∧ Below w.heap.size w w' := by
 have HRu := Lib.hid (clean_any s w hs)
 have hln : (cleanB s).length ≤ s.size := Nat.le_trans (List.length_filterMap_le _ _) (runesB_length s)
 obtain ⟨d, hd⟩ : ∃ d, cleanB s = d := ⟨_, rfl⟩
 rw [hd] at HRu hln ⊢
 clear hd
 go_enter Tryz.func128, Tryz.ntmps128
 go_wp2_with (go_at_call 61; refine HRu.out.mono ?_; rintro e w2 ⟨v2, rfl, hv2, hb2⟩; obtain ⟨a2, c2, rfl, hc2, hm2, hx2⟩ := runes_shape hv2; have HX := Lib.hid hx2; clear hv2 hx2)
 have HW2 := Lib.hid hb2
 unfold maxLen at hm2
 clear hb2
 go_loopw [7, 13] (fun out z wr => ∃ k : Nat, k ≤ d.length ∧ z = .int .i64 k ∧ Hid (CelsR true wr (fun b => w2.heap.size ≤ b) out (cellsOf (d.take k) b h)) ∧ Below w2.heap.size w2 wr) (fun _ z _ => d.length - (intOf z).toNat)
 case atStart => exact ⟨0, Nat.zero_le _, rfl, Lib.hid (SliceR.nil _ _ _ _ _ _), Below.refl _ _⟩
 case round =>
  obtain ⟨k, hk, rfl, HO, hb⟩ := hrel
  by_cases hlt : k < d.length
  ·obtain ⟨x, hx, _⟩ := getOf d k hlt
   obtain ⟨b1, o1, rfl, hz1, hcell⟩ := HX.out k x hx
   have hcl := (hb.cell hz1).trans hcell
   have HT : Hid (cellsOf (d.take (k + 1)) b h = cellsOf (d.take k) b h ++ [⟨x, b, h⟩]) := Lib.hid (by unfold cellsOf; rw [take_some hx, List.map_append]; rfl)
   have HL : Hid ((cellsOf (d.take k) b h).length ≤ 10000000) := Lib.hid (by unfold cellsOf; rw [List.length_map, List.length_take]; omega)
   have i0 : (0 : Int) ≤ (k : Int) := Int.natCast_nonneg _
   have i1 : (k : Int) < (d.length : Int) := by omega
   have hbs := hb.size
   clear hx hz1 hcell
   go_wp2_with (at_builtin; refine wpList_append_R _ rfl _ _ 40 40 rfl rowCell eltCell w2.heap.size _ _ (xs := cellsOf (d.take k) b h) (ys := [(⟨x, b, h⟩ : Cel)]) (news := [.int .i32 x, .int .i64 b, .string ⟨h.toArray⟩]) rfl rfl (SliceR.below (rdOf_stable _) HO.out ((Below.refl _ _).alloc (Nat.le_refl _) _)) (by simp; omega) (src_at rowCell _ _ rfl (fun u hu => by simp at hu; rcases hu with rfl | rfl | rfl <;> rfl) 1 rfl) (NewsR.one rfl rfl) (by have := HL.out; simp only [List.length_singleton]; omega) ?_; intro v' w4 hR hB' _ _; rw [← HT.out] at hR; have HR := Lib.hid hR; have HB' := Lib.hid hB'; clear hR hB')
   go_roundw
   case rel => exact ⟨k + 1, hlt, by go_num, HR, (hb.alloc hbs _).trans HB'.out⟩
   case measure => simp [intOf]; omega
  ·obtain rfl : k = d.length := by omega
   have HBB := Lib.hid hb
   clear hb
   go_wp2_with fail
   go_ret
   have h9 := HO.out
   rw [List.take_length] at h9
   exact ⟨_, rfl, SliceR.stable (rdOf_stable _) h9 (Keeps.refl _ _) (fun b h _ => Nat.le_trans HW2.out.size h), below_from HW2.out HBB.out⟩
set_option maxRecDepth 100000 in
set_option maxHeartbeats 4000000 in
theorem refCOf_any (s : ByteArray) (b : Int) (h : List UInt8) (w : World) (hs : s.size ≤ 10000000) :
  Calls Tryz.prog 130 #[.string s, .int .i64 b, .string ⟨h.toArray⟩] w fun e w' => ∃ v, e = .returned v ∧ CelsR true w' (fun b => w.heap.size ≤ b) v (cellsOf (cleanB s) b h) ∧ Below w.heap.size w w' := by
 have HRu := Lib.hid (refClean_any s w hs)
 have hln : (cleanB s).length ≤ s.size := Nat.le_trans (List.length_filterMap_le _ _) (runesB_length s)
 obtain ⟨d, hd⟩ : ∃ d, cleanB s = d := ⟨_, rfl⟩
 rw [hd] at HRu hln ⊢
 clear hd
 go_enter Tryz.func130, Tryz.ntmps130
 go_wp2_with (go_at_call 196; refine HRu.out.mono ?_; rintro e w2 ⟨v2, rfl, hv2, hb2⟩; obtain ⟨a2, c2, rfl, hc2, hm2, hx2⟩ := runes_shape hv2; have HX := Lib.hid hx2; clear hv2 hx2)
 have HW2 := Lib.hid hb2
 unfold maxLen at hm2
 clear hb2
 go_loopw [8, 9] (fun out z wr => ∃ k : Nat, k ≤ d.length ∧ z = .int .i64 k ∧ Hid (CelsR true wr (fun b => w2.heap.size ≤ b) out (cellsOf (d.take k) b h)) ∧ Below w2.heap.size w2 wr) (fun _ z _ => d.length - (intOf z).toNat)
 case atStart => exact ⟨0, Nat.zero_le _, rfl, Lib.hid (SliceR.nil _ _ _ _ _ _), Below.refl _ _⟩
 case round =>
  obtain ⟨k, hk, rfl, HO, hb⟩ := hrel
  by_cases hlt : k < d.length
  ·obtain ⟨x, hx, _⟩ := getOf d k hlt
   obtain ⟨b1, o1, rfl, hz1, hcell⟩ := HX.out k x hx
   have hcl := (hb.cell hz1).trans hcell
   have HT : Hid (cellsOf (d.take (k + 1)) b h = cellsOf (d.take k) b h ++ [⟨x, b, h⟩]) := Lib.hid (by unfold cellsOf; rw [take_some hx, List.map_append]; rfl)
   have HL : Hid ((cellsOf (d.take k) b h).length ≤ 10000000) := Lib.hid (by unfold cellsOf; rw [List.length_map, List.length_take]; omega)
   have i0 : (0 : Int) ≤ (k : Int) := Int.natCast_nonneg _
   have i1 : (k : Int) < (d.length : Int) := by omega
   have hbs := hb.size
   clear hx hz1 hcell
   go_wp2_with (at_builtin; refine wpList_append_R _ rfl _ _ 40 40 rfl rowCell eltCell w2.heap.size _ _ (xs := cellsOf (d.take k) b h) (ys := [(⟨x, b, h⟩ : Cel)]) (news := [.int .i32 x, .int .i64 b, .string ⟨h.toArray⟩]) rfl rfl (SliceR.below (rdOf_stable _) HO.out ((Below.refl _ _).alloc (Nat.le_refl _) _)) (by simp; omega) (src_at rowCell _ _ rfl (fun u hu => by simp at hu; rcases hu with rfl | rfl | rfl <;> rfl) 1 rfl) (NewsR.one rfl rfl) (by have := HL.out; simp only [List.length_singleton]; omega) ?_; intro v' w4 hR hB' _ _; rw [← HT.out] at hR; have HR := Lib.hid hR; have HB' := Lib.hid hB'; clear hR hB')
   go_roundw
   case rel => exact ⟨k + 1, hlt, by go_num, HR, (hb.alloc hbs _).trans HB'.out⟩
   case measure => simp [intOf]; omega
  ·obtain rfl : k = d.length := by omega
   have HBB := Lib.hid hb
   clear hb
   go_wp2_with fail
   go_ret
   have h9 := HO.out
   rw [List.take_length] at h9
   exact ⟨_, rfl, SliceR.stable (rdOf_stable _) h9 (Keeps.refl _ _) (fun b h _ => Nat.le_trans HW2.out.size h), below_from HW2.out HBB.out⟩
end Go.Proofs.YtpndnbjpnajaaaaGreatDoor
namespace Go.Proofs.Qw
open Go.RowKit Go.Proofs.YtpndnbjpnajaaaaGreatDoor
theorem may_at {d : Doc} {p : Ps} (h : mayD d = true) (hp : isD d p = true) : ∃ (i j : Nat) (l : Lin), p = ⟨i, j⟩ ∧ d[i]? = some l ∧ j ≤ l.cells.length ∧ mayL l = true ∧ lineAt d p = l := by
 obtain ⟨i, j, l, rfl, hl, hj⟩ := isD_nat hp
 exact ⟨i, j, l, rfl, hl, hj, (mayD_iff.1 h).2.2.2 l (mem_of_at hl), lineAt_eq hl _⟩
end Go.Proofs.Qw
namespace Go.Proofs.Qw
open Go.RowKit Go.Proofs.YtpndnbjpnajaaaaGreatDoor
theorem flat_cells {d : Doc} {a b : Ps} (h : spanD d a b = true) : flat (partD d a b).1 = cellsD d a b := by
 unfold partD cellsD flat
 rw [if_pos h, if_pos h]
 exact flat_parts d _
end Go.Proofs.Qw
namespace Go.Proofs.YtpndnbjpnajaaaaGreatDoor
open Go.RowKit
open Go.Proofs.Qw
attribute [local go_sem] Oper.semAt_some
theorem flat_cons (l : Lin) (d : Doc) : flat (l :: d) = l.cells ++ flat d := by simp [flat]
set_option maxRecDepth 100000 in
set_option maxHeartbeats 4000000 in
theorem typBits_any (v : Value) (s : St) (w : World) (S : Nat → Prop) (h : LinsR w S v s.lines) (he : EnvT w) (hs : Small s.lines) (hf : Fits s.lines) (hm : mayS s = true) :
  Calls Tryz.prog 129 #[stV v s] w fun e w' => e = .returned (.int .i64 (typB s)) ∧ Below w.heap.size w w' := by
 obtain ⟨W1, hW1, hB, hz, k0⟩ := one_st w v s
 have HB : Hid (∀ W, Below W1.heap.size W1 W → W.heap[w.heap.size]? = some (.cells #[v, .int .i64 s.anc.line, .int .i64 s.anc.col, .int .i64 s.foc.line, .int .i64 s.foc.col, .int .i64 s.on, .int .i64 s.off] 26)) := Lib.hid fun W hW => heap_below hW k0
 have hs1 := hB.size
 have H1 := Lib.hid hB
 have hw0 : Below W1.heap.size W1 W1 := Below.refl _ _
 have HV : Hid (∀ W, Below W1.heap.size W1 W → LinsR W S v s.lines) := Lib.hid fun W hW => h.below (rdLin_stable _) (hB.trans (hW.mono hs1))
 have HE : Hid (∀ W, Below W1.heap.size W1 W → EnvT W) := Lib.hid fun W hW => (he.below hB).below hW
 have HSp : Hid (∀ W, Below W1.heap.size W1 W → Calls Tryz.prog 28 #[stV v s] W fun e w' => e = .returned (.tuple #[.agg #[.int .i64 (spanS s).1.line, .int .i64 (spanS s).1.col], .agg #[.int .i64 (spanS s).2.line, .int .i64 (spanS s).2.col]]) ∧ Below W.heap.size W w') := Lib.hid fun W hW => stSpan_any v s W
 obtain ⟨hMo, hsp, _, _, hiA⟩ := out_facts hm
 obtain ⟨i, n, l, hA, hl, hnl, hml, hla⟩ := may_at (mayS_at hm).1 hiA
 have HPt : Hid (∀ W, Below W1.heap.size W1 W → Calls Tryz.prog 57 #[v, posV (spanS s).1, posV (spanS s).2] W (DocSaid (partD s.lines (spanS s).1 (spanS s).2) W)) := Lib.hid fun W hW => docPart_any v s.lines _ _ W S (HV.out W hW) (HE.out W hW) hs hf
 have hfl := flat_cells hsp
 have hR : typB s = bits .or .i64 (bits .andNot .i64 (headB (flat (partD s.lines (spanS s).1 (spanS s).2).1) (aroundF l.cells n).1) s.off) s.on := by
  unfold typB
  rw [hfl, hla, hA]
  rfl
 have HR := Lib.hid hR
 obtain ⟨px, pe, hpx⟩ : ∃ px pe, partD s.lines (spanS s).1 (spanS s).2 = (px, pe) := ⟨_, _, rfl⟩
 rw [hpx] at HPt HR
 have HPL : Hid (px.length ≤ 1000000) := Lib.hid (by
  obtain ⟨_, i2, j2, p2, q2, _, _, e1, e2, g1, g2, _⟩ := span_at hsp
  have h9 := hsp
  rw [e1, e2] at h9
  have h8 := part_length h9
  rw [← e1, ← e2, hpx] at h8
  have := (List.getElem?_eq_some_iff.1 g2).1
  have := hf.1
  simp only at h8
  omega)
 obtain ⟨B, hBB⟩ : ∃ B, (spanS s).2 = B := ⟨_, rfl⟩
 rw [hA, hBB] at HSp HPt
 have HP : Hid (∀ p : Ps, posV p = .agg #[.int .i64 p.line, .int .i64 p.col]) := Lib.hid fun _ => rfl
 rw [HP.out, HP.out] at HPt
 obtain ⟨x, y, hxy⟩ : ∃ x y, aroundF l.cells n = (x, y) := ⟨_, _, rfl⟩
 rw [hxy] at HR
 have HXY := Lib.hid hxy
 have hil := (List.getElem?_eq_some_iff.1 hl).1
 obtain ⟨va, vc, rfl, hvc, hvm, hx⟩ := lins_shape h
 obtain ⟨b, o, la, lc, ca, cc, rfl, hAt⟩ := hx i l hl
 have HAT : Hid (∀ W, Below W1.heap.size W1 W → LinAt W S b (o + i * 4) l la lc ca cc) := Lib.hid fun W hW => hAt.below (hB.trans (hW.mono hs1))
 unfold maxLen at hvm
 have i0 : (0 : Int) ≤ (i : Int) := Int.natCast_nonneg _
 have i1 : (i : Int) < (s.lines.length : Int) := by omega
 obtain ⟨p0, f0⟩ := blk k0
 obtain ⟨r, hr⟩ : ∃ r, typB s = r := ⟨_, rfl⟩
 rw [hr] at HR ⊢
 clear hr h he hs hf hm hMo hsp hiA hl hml hla hA hfl hpx hBB hxy hx hAt k0 hB hR
 go_enter Tryz.func129, Tryz.ntmps129
 go_wp2_with (go_at_call 28; refine (HSp.out _ hw0).mono ?_; rintro e w2 ⟨rfl, hb2⟩; obtain ⟨q0, g0⟩ := blk (HB.out _ hb2))
 obtain ⟨w3, hw3⟩ : ∃ w3, (w2.alloc (.cells #[.int .i64 i, .int .i64 n] 24)).alloc (.cells #[.int .i64 B.line, .int .i64 B.col] 24) = w3 := ⟨_, rfl⟩
 rw [hw3]
 have hb23 : Below w2.heap.size w2 w3 := hw3 ▸ ((Below.refl _ _).alloc (Nat.le_refl _) _).alloc (by simp) _
 have n3 : w3.heap[w2.heap.size]? = some (.cells #[.int .i64 i, .int .i64 n] 24) := hw3 ▸ heap_old _ _ (heap_new _ _ rfl)
 have n4 : w3.heap[w2.heap.size + 1]? = some (.cells #[.int .i64 B.line, .int .i64 B.col] 24) := hw3 ▸ heap_new _ _ (by simp)
 have hb3 := below_from hb2 hb23
 have HB3 : Hid (∀ W, Below w3.heap.size w3 W → W.heap[w2.heap.size]? = some (.cells #[.int .i64 i, .int .i64 n] 24) ∧ W.heap[w2.heap.size + 1]? = some (.cells #[.int .i64 B.line, .int .i64 B.col] 24)) := Lib.hid fun W hW => ⟨heap_below hW n3, heap_below hW n4⟩
 have HAr : Hid (∀ W, Below w3.heap.size w3 W → Calls Tryz.prog 76 #[.slice ca l.cells.length cc, .int .i64 n] W fun e w' => e = .returned (.tuple #[.int .i64 x, .string ⟨y.toArray⟩]) ∧ Below W.heap.size W w') := Lib.hid fun W hW => by
  have := around_any _ l.cells n W S (HAT.out W (below_from hb3 hW)).cellsR hnl
  rw [HXY.out] at this
  exact this
 clear n3 n4 q0 g0 p0 f0 hw3
 refine wp_region_grew w3.heap.size (by kernel_rfl) (by kernel_rfl) ?_
 refine BigFrame.wpQuiet_want (by kernel_rfl) (fun K hK => ?_)
 refine quiet_val ?_ (fun W hW => ?_) (hK _ ?_)
 rotate_left 1
 ·skip
  go_simp
  try rfl
 clear hK
 clear K
 try simp only [Act.put, qI, qX, qY]
 refine BigFrame.wpQuiet_want (by kernel_rfl) (fun K hK => ?_)
 refine quiet_val ?_ (fun W hW => ?_) (hK _ ?_)
 rotate_left 1
 ·skip
  obtain ⟨p0, f0⟩ := blk (HB.out _ (below_from hb3 hW))
  obtain ⟨p3, f3⟩ := blk (HB3.out _ hW).1
  obtain ⟨_, _, _, _, c3, _, _⟩ := HAT.out _ (below_from hb3 hW)
  go_simp
  try rfl
 clear hK
 clear K
 try simp only [Act.put, qI, qX, qY]
 refine BigFrame.wpQuiet_want (by kernel_rfl) (fun K hK => ?_)
 refine quiet_val ?_ (fun W hW => ?_) (hK _ ?_)
 rotate_left 1
 ·skip
  go_simp
  try rfl
 clear hK
 clear K
 try simp only [Act.put, qI, qX, qY]
 refine BigFrame.wpQuiet_want (by kernel_rfl) (fun K hK => ?_)
 refine quiet_val ?_ (fun W hW => ?_) (hK _ ?_)
 rotate_left 1
 ·skip
  obtain ⟨p0, f0⟩ := blk (HB.out _ (below_from hb3 hW))
  obtain ⟨p3, f3⟩ := blk (HB3.out _ hW).1
  obtain ⟨_, _, _, _, c3, _, _⟩ := HAT.out _ (below_from hb3 hW)
  go_simp
  try rfl
 clear hK
 clear K
 try simp only [Act.put, qI, qX, qY]
 refine BigFrame.wpQuiet_want (by kernel_rfl) (fun K hK => ?_)
 refine quiet_val ?_ (fun W hW => ?_) (hK _ ?_)
 rotate_left 1
 ·skip
  go_simp
  try rfl
 clear hK
 clear K
 try simp only [Act.put, qI, qX, qY]
 refine BigFrame.wpQuiet_want (by kernel_rfl) (fun K hK => ?_)
 refine quiet_val ?_ (fun W hW => ?_) (hK _ ?_)
 rotate_left 1
 ·skip
  go_simp
  try rfl
 clear hK
 clear K
 try simp only [Act.put, qI, qX, qY]
 refine BigFrame.wpQuiet_want (by kernel_rfl) (fun K hK => ?_)
 refine quiet_val ?_ (fun W hW => ?_) (hK _ ?_)
 rotate_left 1
 ·skip
  obtain ⟨p0, f0⟩ := blk (HB.out _ (below_from hb3 hW))
  obtain ⟨p3, f3⟩ := blk (HB3.out _ hW).1
  obtain ⟨_, _, _, _, c3, _, _⟩ := HAT.out _ (below_from hb3 hW)
  go_simp
  try rfl
 clear hK
 clear K
 try simp only [Act.put, qI, qX, qY]
 refine BigFrame.wpQuiet_want (by kernel_rfl) (fun K hK => ?_)
 refine quiet_val ?_ (fun W hW => ?_) (hK _ ?_)
 rotate_left 1
 ·skip
  go_simp
  try rfl
 clear hK
 clear K
 try simp only [Act.put, qI, qX, qY]
 refine BigFrame.wpQuiet_want (by kernel_rfl) (fun K hK => ?_)
 refine quiet_val ?_ (fun W hW => ?_) (hK _ ?_)
 rotate_left 1
 ·skip
  obtain ⟨p0, f0⟩ := blk (HB.out _ (below_from hb3 hW))
  obtain ⟨p3, f3⟩ := blk (HB3.out _ hW).1
  obtain ⟨_, _, _, _, c3, _, _⟩ := HAT.out _ (below_from hb3 hW)
  go_simp
  try rfl
 clear hK
 clear K
 try simp only [Act.put, qI, qX, qY]
 refine BigFrame.wpQuiet_want (by kernel_rfl) (fun K hK => ?_)
 refine quiet_calls (f := ?_) (args := ?_) ?_ (fun W hW => ?_) (fun W hW => ?_) (hK _ ?_)
 rotate_left 3
 ·go_simp
  constructor <;> rfl
 ·refine (HAr.out _ hW).mono ?_
  rintro e W2 ⟨rfl, hbW⟩
  refine ⟨?_, below_from hW hbW⟩
  rfl
 clear hK
 clear K
 try simp only [Act.put, qI, qX, qY]
 refine BigFrame.wpQuiet_want (by kernel_rfl) (fun K hK => ?_)
 refine quiet_val ?_ (fun W hW => ?_) (hK _ ?_)
 rotate_left 1
 ·skip
  go_simp
  try rfl
 clear hK
 clear K
 try simp only [Act.put, qI, qX, qY]
 refine BigFrame.wpQuiet_want (by kernel_rfl) (fun K hK => ?_)
 refine quiet_val ?_ (fun W hW => ?_) (hK _ ?_)
 rotate_left 1
 ·skip
  go_simp
  try rfl
 clear hK
 clear K
 try simp only [Act.put, qI, qX, qY]
 refine BigFrame.wpQuiet_want (by kernel_rfl) (fun K hK => ?_)
 refine quiet_val ?_ (fun W hW => ?_) (hK _ ?_)
 rotate_left 1
 ·skip
  go_simp
  try rfl
 clear hK
 clear K
 try simp only [Act.put, qI, qX, qY]
 refine BigFrame.wpQuiet_want (by kernel_rfl) (fun K hK => ?_)
 refine quiet_val ?_ (fun W hW => ?_) (hK _ ?_)
 rotate_left 1
 ·skip
  go_simp
  try rfl
 clear hK
 clear K
 try simp only [Act.put, qI, qX, qY]
 refine BigFrame.wpQuiet_want (by kernel_rfl) (fun K hK => ?_)
 refine quiet_val ?_ (fun W hW => ?_) (hK _ ?_)
 rotate_left 1
 ·skip
  go_simp
  try rfl
 clear hK
 clear K
 try simp only [Act.put, qI, qX, qY]
 refine wpQuiet_nil (fun X6 hstX6 => ?_)
 have hcX6 := below_from hb3 hstX6
 obtain ⟨p0, f0⟩ := blk (HB.out _ hcX6)
 obtain ⟨p3, f3⟩ := blk (HB3.out _ hstX6).1
 obtain ⟨p4, f4⟩ := blk (HB3.out _ hstX6).2
 go_wp2_with (go_at_call 57; refine (HPt.out _ hcX6).mono ?_; intro e w7 hsaid; obtain ⟨v7, rfl, hv7, hst7⟩ := hsaid; obtain ⟨a7, c7, rfl, hc7, hm7, hx7⟩ := lins_shape hv7.read; have HX := Lib.hid hx7; clear hv7 hx7)
 have hb7 := below_from hcX6 hst7
 have HK0 := Lib.hid hb7
 unfold maxLen at hm7
 have hpl := HPL.out
 clear p0 f0 p3 f3 p4 f4
 go_loopw [5, 39] (fun bb z wr => ∃ k : Nat, k ≤ px.length ∧ z = .int .i64 k ∧ bb = .int .i64 x ∧ Hid (headB (flat px) x = headB (flat (px.drop k)) x) ∧ Below w7.heap.size w7 wr) (fun _ z _ => px.length - (intOf z).toNat)
 case atStart => exact ⟨0, Nat.zero_le _, rfl, rfl, Lib.hid rfl, Below.refl _ _⟩
 case round =>
  obtain ⟨k, hk, rfl, rfl, HK, hb⟩ := hrel
  have hbw := below_from hb7 hb
  by_cases hlt : k < px.length
  ·obtain ⟨ln, hln, hdr⟩ := getOf px k hlt
   obtain ⟨b1, o1, la1, lc1, ca1, cc1, rfl, hAk⟩ := HX.out k ln hln
   obtain ⟨_, d0, d1, d2, d3, _, hcR⟩ := hAk.below hb
   rw [hdr, flat_cons] at HK
   have k0' : (0 : Int) ≤ (k : Int) := Int.natCast_nonneg _
   have k1' : (k : Int) < (px.length : Int) := by omega
   cases hce : ln.cells with
   | nil =>
    rw [hce] at d3 HK
    rw [List.nil_append] at HK
    simp only [List.length_nil] at d3
    clear hcR hAk hln hdr hce
    go_wp2_with fail
    go_roundw
    case rel => exact ⟨k + 1, hlt, by go_num, rfl, HK, hb.alloc hb.size _⟩
    case measure => simp [intOf]; omega
   | cons cel cels =>
    rw [hce] at d3 HK hcR
    obtain ⟨a9, c9, e9, _, _, hx9⟩ := cels_shape hcR
    cases e9
    obtain ⟨b9, o9, rfl, hz9, u0, u1, u2⟩ := hx9 0 cel rfl
    rw [Nat.zero_mul, Nat.add_zero] at u0 u1 u2
    have u1' : ∀ X, (wr.alloc X).cell? ⟨b9, o9 + 1, none⟩ = some (.int .i64 cel.bits) := fun X => (World.cell?_of_block (heap_alloc_old _ _ hz9)).trans u1
    have hp1 : (0 : Int) < (((cel :: cels).length : Nat) : Int) := by simp
    have hp2 : 0 < (cel :: cels).length := by simp
    have HKK : Hid (headB (flat px) x = cel.bits) := Lib.hid (HK.out.trans rfl)
    obtain ⟨m, hm⟩ : ∃ m, (cel :: cels).length = m := ⟨_, rfl⟩
    rw [hm] at d3 hp1 hp2
    have r0 := on1 (HB.out _ hbw)
    clear hcR hAk hln hdr hce HK hx9 u0 u1 u2
    go_wp2_with fail
    go_ret
    rw [HR.out, HKK.out]
    exact ⟨rfl, H1.out.trans ((hbw.alloc hbw.size _).mono hs1)⟩
  ·obtain rfl : k = px.length := by omega
   have HKK : Hid (headB (flat px) x = x) := Lib.hid (by have := HK.out; rw [List.drop_length] at this; exact this)
   obtain ⟨p0, f0⟩ := blk (HB.out _ hbw)
   clear HK
   go_wp2_with fail
   go_ret
   rw [HR.out, HKK.out]
   exact ⟨rfl, H1.out.trans (hbw.mono hs1)⟩
set_option maxRecDepth 100000 in
set_option maxHeartbeats 8000000 in
theorem text1_any (Bt Bs : Nat) (v : Value) (s : St) (t : ByteArray) (n : Nat) (a : Option Addr) (c : Nat) (w : World) (S : Nat → Prop) (ht : w.heap[Bt]? = some (.cells #[.string t] 9)) (hst : w.heap[Bs]? = some (.cells #[v, .int .i64 s.anc.line, .int .i64 s.anc.col, .int .i64 s.foc.line, .int .i64 s.foc.col, .int .i64 s.on, .int .i64 s.off] 26)) (hv : LinsR w S v s.lines) (he : EnvT w) (hs : Small s.lines) (hf : Fits s.lines) (hm : mayS s = true)
  (h : DocR true w (fun b => n ≤ b) (.slice a (outS s).length c) (outS s)) (hn : n ≤ w.heap.size) (hts : t.size ≤ 1000000) :
  Calls Tryz.prog 126 #[.slice a (outS s).length c, posV (spanS s).1, .pointer (some ⟨Bt, 0, none⟩), .pointer (some ⟨Bs, 0, none⟩)] w (DocPB n (textK s t) w) := by
 obtain ⟨hMo, hsp, hiO, _, hiA⟩ := out_facts hm
 obtain ⟨i, p, l, hA, hl, hpl, hml, hla⟩ := may_at hMo hiO
 have hso := (may_small hMo).1
 have hfo := (may_small hMo).2
 obtain ⟨x, y, hxy⟩ : ∃ x y, aroundF l.cells p = (x, y) := ⟨_, _, rfl⟩
 have hyl : y.length ≤ 1000000 := by
  have h9 : (aroundF l.cells p).2 = y := by rw [hxy]
  rw [← h9]
  unfold aroundF
  simp only
  split
  ·rename_i h1
   have hme : (l.cells.getD (p - 1) default) ∈ l.cells := by
    rw [List.getD_eq_getElem?_getD, List.getElem?_eq_getElem (show p - 1 < l.cells.length by omega)]
    exact List.getElem_mem _
   exact hso.2.2 l (mem_of_at hl) _ hme
  ·simp
 have HR : Hid (textK s t = if 8192 < t.size then ([], ⟨i, p⟩, 10) else if cleanB t = [] then ([], ⟨i, p⟩, 7) else insertD (cellsOf (cleanB t) (typB s) y) (outS s) ⟨i, p⟩) := Lib.hid (by
  unfold textK
  rw [hla, hA]
  simp only [Int.toNat_natCast]
  rw [hxy])
 have hcl : (cleanB t).length ≤ t.size := Nat.le_trans (List.length_filterMap_le _ _) (runesB_length t)
 have HXY := Lib.hid hxy
 have HOL := Lib.hid hl
 obtain ⟨O, hO⟩ : ∃ O, outS s = O := ⟨_, rfl⟩
 rw [hO] at h hl hso hfo HR HOL
 rw [hO, hA]
 obtain ⟨W1, hW1, hB, hz, k0, k1⟩ := two_pos w (.int .i64 i) (.int .i64 p) (.int .i64 0) (.int .i64 0)
 have hs1 := hB.size
 have kt := heap_below hB ht
 have ks := heap_below hB hst
 have HB : Hid (∀ W, Below W1.heap.size W1 W → W.heap[w.heap.size]? = some (.cells #[.int .i64 (⟨i, p⟩ : Ps).line, .int .i64 (⟨i, p⟩ : Ps).col] 24) ∧ W.heap[w.heap.size + 1]? = some (.cells #[.int .i64 0, .int .i64 0] 24) ∧ W.heap[Bt]? = some (.cells #[.string t] 9) ∧ W.heap[Bs]? = some (.cells #[v, .int .i64 s.anc.line, .int .i64 s.anc.col, .int .i64 s.foc.line, .int .i64 s.foc.col, .int .i64 s.on, .int .i64 s.off] 26)) := Lib.hid fun W hW => ⟨heap_below hW k0, heap_below hW k1, heap_below hW kt, heap_below hW ks⟩
 have hw0 : Below W1.heap.size W1 W1 := Below.refl _ _
 have hE1 := he.below hB
 have HCln : Hid (∀ W, Below W1.heap.size W1 W → Calls Tryz.prog 61 #[.string t] W fun e w' => ∃ v, e = .returned v ∧ RunesR true w' (fun b => W.heap.size ≤ b) v (cleanB t) ∧ Below W.heap.size W w') := Lib.hid fun W _ => clean_any t W (by omega)
 have HBi : Hid (∀ W, Below W1.heap.size W1 W → Calls Tryz.prog 129 #[stV v s] W fun e w' => e = .returned (.int .i64 (typB s)) ∧ Below W.heap.size W w') := Lib.hid fun W hW => typBits_any v s W S (hv.below (rdLin_stable _) (hB.trans (hW.mono hs1))) (hE1.below hW) hs hf hm
 have HOf : Hid (∀ b W, Below W1.heap.size W1 W → Calls Tryz.prog 128 #[.string t, .int .i64 b, .string ⟨y.toArray⟩] W fun e w' => ∃ v, e = .returned v ∧ CelsR true w' (fun b => W.heap.size ≤ b) v (cellsOf (cleanB t) b y) ∧ Below W.heap.size W w') := Lib.hid fun b W _ => cellsOf_any t b y W (by omega)
 have HIn : Hid (∀ b lv S2 W, Below W1.heap.size W1 W → CelsR false W S2 lv (cellsOf (cleanB t) b y) → Calls Tryz.prog 127 #[.slice a O.length c, .agg #[.int .i64 i, .int .i64 p], lv] W (DocPSaid (insertD (cellsOf (cleanB t) b y) O ⟨i, p⟩) W)) := Lib.hid fun b lv S2 W hW hlv => docInsert_any _ lv O _ ⟨i, p⟩ W (fun b => n ≤ b) S2 (h.below (hB.trans (hW.mono hs1))).read hlv (hE1.below hW) hso hfo (by unfold cellsOf; rw [List.length_map]; omega) (fun c hc => by
  unfold cellsOf at hc
  obtain ⟨r, _, rfl⟩ := List.mem_map.1 hc
  exact hyl)
 obtain ⟨a', c', ee, hvc, hvm, hx⟩ := lins_shape (h.below hB).read
 cases ee
 obtain ⟨b, o, la, lc, ca, cc, rfl, hAt⟩ := hx i l hl
 have HAT : Hid (∀ W, Below W1.heap.size W1 W → LinAt W (fun b => n ≤ b) b (o + i * 4) l la lc ca cc) := Lib.hid fun W hW => hAt.below hW
 have HAr : Hid (∀ W, Below W1.heap.size W1 W → Calls Tryz.prog 76 #[.slice ca l.cells.length cc, .int .i64 p] W fun e w' => e = .returned (.tuple #[.int .i64 x, .string ⟨y.toArray⟩]) ∧ Below W.heap.size W w') := Lib.hid fun W hW => by
  have := around_any _ l.cells p W _ (HAT.out W hW).cellsR hpl
  rw [HXY.out] at this
  exact this
 have hil := (List.getElem?_eq_some_iff.1 hl).1
 unfold maxLen at hvm
 have i0 : (0 : Int) ≤ (i : Int) := Int.natCast_nonneg _
 have i1 : (i : Int) < (O.length : Int) := by omega
 have HP : Hid (∀ p : Ps, posV p = .agg #[.int .i64 p.line, .int .i64 p.col]) := Lib.hid fun _ => rfl
 rw [HP.out]
 have H1 := Lib.hid hB
 have HN := Lib.hid hn
 have HK := Lib.hid k1
 have hBt := (Array.getElem?_eq_some_iff.1 ht).1
 have hBs := (Array.getElem?_eq_some_iff.1 hst).1
 have e1 : ¬ Bt = w.heap.size := by omega
 have e2 : ¬ Bt = w.heap.size + 1 := by omega
 have e3 : ¬ Bs = w.heap.size := by omega
 have e4 : ¬ Bs = w.heap.size + 1 := by omega
 have e5 : ¬ w.heap.size + 1 = Bt := by omega
 have e6 : ¬ w.heap.size + 1 = Bs := by omega
 obtain ⟨p0, f0⟩ := blk k0
 obtain ⟨p1, f1⟩ := blk k1
 obtain ⟨p2, f2⟩ := blk kt
 obtain ⟨va, vc, rfl⟩ := hv.slice
 obtain ⟨tb, htb⟩ : ∃ tb, typB s = tb := ⟨_, rfl⟩
 rw [htb] at HBi HR
 obtain ⟨cl, hcl2⟩ : ∃ cl, cleanB t = cl := ⟨_, rfl⟩
 rw [hcl2] at HCln HOf HIn HR hcl
 have HOf := Lib.hid (fun W hW => HOf.out tb W hW)
 have HIn := Lib.hid (fun lv S2 W hW h9 => HIn.out tb lv S2 W hW h9)
 clear ht hst hv he hs hf hm h hn hMo hsp hiO hiA hA hl hpl hml hla hso hfo hxy hyl hO k0 k1 kt ks hB hE1 hx hAt htb hcl2
 by_cases h8 : 8192 < t.size
 ·have HR := Lib.hid (HR.out.trans (if_pos h8))
  have h8i : (8192 : Int) < (t.size : Int) := by omega
  go_enter Tryz.func126, Tryz.ntmps126
  go_wp2_with fail
  go_region
  go_wp2_with fail
  refine bodyPost_ret (results_dpe rfl _ _ (w.heap.size + 1) (.int .i64 i) (.int .i64 p) rfl (by rw [drew_heap]; simp [heap_set, putIn, HK.out])) rfl ?_
  have hfin := H1.out
  exact DocPB.err HR.out (by (repeat' (first | (with_reducible exact Below.refl _ _) | (with_reducible assumption) | (with_reducible refine Below.alloc ?_ ?_ _) | (with_reducible refine Below.drew ?_) | (with_reducible refine drewN_below ?_) | (with_reducible refine Below.setCell ?_ ?_ _) | go_size))) HN.out
 have HR := Lib.hid (HR.out.trans (if_neg h8))
 have h8i : ¬ (8192 : Int) < (t.size : Int) := by omega
 by_cases hc0 : cl = []
 ·have HR := Lib.hid (HR.out.trans (if_pos hc0))
  have hcz : ((cl.length : Nat) : Int) = 0 := by rw [hc0]; rfl
  have hcz2 : (((cl.length : Nat) : Int) == 0) = true := by rw [hcz]; rfl
  clear hc0 hcz
  go_enter Tryz.func126, Tryz.ntmps126
  go_wp2_with (go_at_call 61; refine (HCln.out _ hw0).mono ?_; rintro e w2 ⟨v2, rfl, hv2, hst2⟩; obtain ⟨a2, c2, rfl⟩ := hv2.slice; clear hv2; have hb2 := below_from hw0 hst2; obtain ⟨q0, g0⟩ := blk (HB.out _ hb2).1; obtain ⟨q1, g1⟩ := blk (HB.out _ hb2).2.1; obtain ⟨q2, g2⟩ := blk (HB.out _ hb2).2.2.1)
  go_region
  go_wp2_with fail
  refine bodyPost_ret (results_dpe rfl _ _ (w.heap.size + 1) (.int .i64 i) (.int .i64 p) rfl (by rw [drew_heap]; simp [heap_set, putIn, (HB.out _ hb2).2.1])) rfl ?_
  have hfin := H1.out.trans (hb2.mono hs1)
  exact DocPB.err HR.out (by (repeat' (first | (with_reducible exact Below.refl _ _) | (with_reducible assumption) | (with_reducible refine Below.alloc ?_ ?_ _) | (with_reducible refine Below.drew ?_) | (with_reducible refine drewN_below ?_) | (with_reducible refine Below.setCell ?_ ?_ _) | go_size))) HN.out
 have HR := Lib.hid (HR.out.trans (if_neg hc0))
 have hcz2 : (((cl.length : Nat) : Int) == 0) = false := by
  have : cl.length ≠ 0 := fun e => hc0 (List.length_eq_zero_iff.1 e)
  simp
  exact hc0
 clear hc0
 obtain ⟨Y, q, er, hY⟩ : ∃ Y q er, insertD (cellsOf cl tb y) O ⟨i, p⟩ = (Y, q, er) := ⟨_, _, _, rfl⟩
 rw [hY] at HIn HR
 clear hY
 go_enter Tryz.func126, Tryz.ntmps126
 go_wp2_with (go_at_call 61; refine (HCln.out _ hw0).mono ?_; rintro e w2 ⟨v2, rfl, hv2, hst2⟩; obtain ⟨a2, c2, rfl⟩ := hv2.slice; clear hv2; have hb2 := below_from hw0 hst2; obtain ⟨q0, g0⟩ := blk (HB.out _ hb2).1; obtain ⟨q1, g1⟩ := blk (HB.out _ hb2).2.1; obtain ⟨q2, g2⟩ := blk (HB.out _ hb2).2.2.1)
 refine wp_region_grew w2.heap.size (by kernel_rfl) (by kernel_rfl) ?_
 refine BigFrame.wpQuiet_want (by kernel_rfl) (fun K hK => ?_)
 refine quiet_val ?_ (fun W hW => ?_) (hK _ ?_)
 rotate_left 1
 ·skip
  go_simp
  try rfl
 clear hK
 clear K
 try simp only [Act.put, qI, qX, qY]
 refine BigFrame.wpQuiet_want (by kernel_rfl) (fun K hK => ?_)
 refine quiet_val ?_ (fun W hW => ?_) (hK _ ?_)
 rotate_left 1
 ·skip
  go_simp
  try rfl
 clear hK
 clear K
 try simp only [Act.put, qI, qX, qY]
 refine BigFrame.wpQuiet_want (by kernel_rfl) (fun K hK => ?_)
 refine quiet_val ?_ (fun W hW => ?_) (hK _ ?_)
 rotate_left 1
 ·skip
  obtain ⟨p0, f0⟩ := blk (HB.out _ (below_from hb2 hW)).1
  obtain ⟨_, _, _, _, c3, _, _⟩ := HAT.out _ (below_from hb2 hW)
  go_simp
  try rfl
 clear hK
 clear K
 try simp only [Act.put, qI, qX, qY]
 refine BigFrame.wpQuiet_want (by kernel_rfl) (fun K hK => ?_)
 refine quiet_val ?_ (fun W hW => ?_) (hK _ ?_)
 rotate_left 1
 ·skip
  go_simp
  try rfl
 clear hK
 clear K
 try simp only [Act.put, qI, qX, qY]
 refine BigFrame.wpQuiet_want (by kernel_rfl) (fun K hK => ?_)
 refine quiet_val ?_ (fun W hW => ?_) (hK _ ?_)
 rotate_left 1
 ·skip
  go_simp
  try rfl
 clear hK
 clear K
 try simp only [Act.put, qI, qX, qY]
 refine BigFrame.wpQuiet_want (by kernel_rfl) (fun K hK => ?_)
 refine quiet_val ?_ (fun W hW => ?_) (hK _ ?_)
 rotate_left 1
 ·skip
  obtain ⟨p0, f0⟩ := blk (HB.out _ (below_from hb2 hW)).1
  obtain ⟨_, _, _, _, c3, _, _⟩ := HAT.out _ (below_from hb2 hW)
  go_simp
  try rfl
 clear hK
 clear K
 try simp only [Act.put, qI, qX, qY]
 refine BigFrame.wpQuiet_want (by kernel_rfl) (fun K hK => ?_)
 refine quiet_val ?_ (fun W hW => ?_) (hK _ ?_)
 rotate_left 1
 ·skip
  go_simp
  try rfl
 clear hK
 clear K
 try simp only [Act.put, qI, qX, qY]
 refine BigFrame.wpQuiet_want (by kernel_rfl) (fun K hK => ?_)
 refine quiet_val ?_ (fun W hW => ?_) (hK _ ?_)
 rotate_left 1
 ·skip
  obtain ⟨p0, f0⟩ := blk (HB.out _ (below_from hb2 hW)).1
  obtain ⟨_, _, _, _, c3, _, _⟩ := HAT.out _ (below_from hb2 hW)
  go_simp
  try rfl
 clear hK
 clear K
 try simp only [Act.put, qI, qX, qY]
 refine BigFrame.wpQuiet_want (by kernel_rfl) (fun K hK => ?_)
 refine quiet_calls (f := ?_) (args := ?_) ?_ (fun W hW => ?_) (fun W hW => ?_) (hK _ ?_)
 rotate_left 3
 ·go_simp
  constructor <;> rfl
 ·refine (HAr.out _ (below_from hb2 hW)).mono ?_
  rintro e W2 ⟨rfl, hbW⟩
  refine ⟨?_, below_from hW hbW⟩
  rfl
 clear hK
 clear K
 try simp only [Act.put, qI, qX, qY]
 refine BigFrame.wpQuiet_want (by kernel_rfl) (fun K hK => ?_)
 refine quiet_val ?_ (fun W hW => ?_) (hK _ ?_)
 rotate_left 1
 ·skip
  go_simp
  try rfl
 clear hK
 clear K
 try simp only [Act.put, qI, qX, qY]
 refine BigFrame.wpQuiet_want (by kernel_rfl) (fun K hK => ?_)
 refine quiet_val ?_ (fun W hW => ?_) (hK _ ?_)
 rotate_left 1
 ·skip
  go_simp
  try rfl
 clear hK
 clear K
 try simp only [Act.put, qI, qX, qY]
 refine BigFrame.wpQuiet_want (by kernel_rfl) (fun K hK => ?_)
 refine quiet_val ?_ (fun W hW => ?_) (hK _ ?_)
 rotate_left 1
 ·skip
  go_simp
  try rfl
 clear hK
 clear K
 try simp only [Act.put, qI, qX, qY]
 refine BigFrame.wpQuiet_want (by kernel_rfl) (fun K hK => ?_)
 refine quiet_val ?_ (fun W hW => ?_) (hK _ ?_)
 rotate_left 1
 ·skip
  go_simp
  try rfl
 clear hK
 clear K
 try simp only [Act.put, qI, qX, qY]
 refine BigFrame.wpQuiet_want (by kernel_rfl) (fun K hK => ?_)
 refine quiet_val ?_ (fun W hW => ?_) (hK _ ?_)
 rotate_left 1
 ·skip
  go_simp
  try rfl
 clear hK
 clear K
 try simp only [Act.put, qI, qX, qY]
 refine wpQuiet_nil (fun X6 hstX6 => ?_)
 have hcX6 := below_from hb2 hstX6
 clear p0 f0 p1 f1 p2 f2 q0 g0 q1 g1 q2 g2
 obtain ⟨p0, f0⟩ := blk (HB.out _ hcX6).1
 obtain ⟨p1, f1⟩ := blk (HB.out _ hcX6).2.1
 obtain ⟨p2, f2⟩ := blk (HB.out _ hcX6).2.2.1
 obtain ⟨p3, f3⟩ := blk (HB.out _ hcX6).2.2.2
 have hd6 : Below W1.heap.size W1 X6.drew := hcX6.drew
 go_wp2_with fail
 go_region_held3 (fun w' => w'.cell? ⟨w.heap.size, 0, none⟩ = some (.int .i64 i) ∧ w'.cell? ⟨w.heap.size, 1, none⟩ = some (.int .i64 p) ∧ w'.cell? ⟨Bt, 0, none⟩ = some (.string t) ∧ w'.cell? ⟨Bs, 0, none⟩ = some (.slice va s.lines.length vc) ∧ w'.cell? ⟨Bs, 1, none⟩ = some (.int .i64 s.anc.line) ∧ w'.cell? ⟨Bs, 2, none⟩ = some (.int .i64 s.anc.col) ∧ w'.cell? ⟨Bs, 3, none⟩ = some (.int .i64 s.foc.line) ∧ w'.cell? ⟨Bs, 4, none⟩ = some (.int .i64 s.foc.col) ∧ w'.cell? ⟨Bs, 5, none⟩ = some (.int .i64 s.on) ∧ w'.cell? ⟨Bs, 6, none⟩ = some (.int .i64 s.off)) (go_keep)
  ((first
   | (go_at_call 129; refine (HBi.out _ hd6).mono ?_; rintro e w7 ⟨rfl, hst7⟩; have hb7 := below_from hd6 hst7; obtain ⟨r0, s0⟩ := blk (HB.out _ hb7).1; obtain ⟨r1, s1⟩ := blk (HB.out _ hb7).2.1; obtain ⟨r2, s2⟩ := blk (HB.out _ hb7).2.2.1; obtain ⟨r3, s3⟩ := blk (HB.out _ hb7).2.2.2)
   | (go_at_call 128; refine (HOf.out _ hb7).mono ?_; rintro e w8 ⟨v8, rfl, hv8, hst8⟩; have hb8 := below_from hb7 hst8; have HI8 := Lib.hid (fun W hW => HIn.out v8 (fun b => w7.heap.size ≤ b) W hW); have HV8 := Lib.hid (SliceR.read (fun _ _ h => h) hv8); clear hv8; obtain ⟨r4, s4⟩ := blk (HB.out _ hb8).1; obtain ⟨r5, s5⟩ := blk (HB.out _ hb8).2.1; obtain ⟨r6, s6⟩ := blk (HB.out _ hb8).2.2.1; obtain ⟨r7, s7⟩ := blk (HB.out _ hb8).2.2.2)
   | (go_at_call 127; refine (HI8.out _ hb8 HV8.out).mono ?_; intro e w9 hsaid; obtain ⟨v9, he9, hv9, hst9⟩ := hsaid; rw [HP.out] at he9; subst he9; have hb9 := below_from hb8 hst9; have HV9 := Lib.hid hv9; clear hv9; obtain ⟨t0, u0⟩ := blk (HB.out _ hb9).1; obtain ⟨t1, u1⟩ := blk (HB.out _ hb9).2.1; obtain ⟨t2, u2⟩ := blk (HB.out _ hb9).2.2.1; obtain ⟨t3, u3⟩ := blk (HB.out _ hb9).2.2.2)))
 go_wp2_with fail
 have hfin := H1.out.trans (hb9.mono hs1)
 refine bodyPost_ret (results_dpe rfl _ _ (w.heap.size + 1) (.int .i64 q.line) (.int .i64 q.col) rfl (by simp [heap_set, putIn, (HB.out _ hb9).2.1])) rfl ?_
 rw [HR.out]
 have hv9 := HV9.out
 have hz8 := hb8.size
 have hn9 : n ≤ w.heap.size := HN.out
 refine ⟨_, rfl, (SliceR.stable (rdLin_stable _) hv9 (by (repeat' (first | (with_reducible exact Keeps.refl _ _) | (with_reducible refine Keeps.set ?_ ?_ _) | (with_reducible refine Keeps.alloc ?_ _) | (with_reducible refine Keeps.drew ?_) | (first | fail) | (simp; omega)))) (fun b h _ => (by have h' := h; (try simp at h'); omega))), ?_⟩
 refine Below.mono ?_ HN.out
 (repeat' (first | (with_reducible exact Below.refl _ _) | (with_reducible assumption) | (with_reducible refine Below.alloc ?_ ?_ _) | (with_reducible refine Below.drew ?_) | (with_reducible refine drewN_below ?_) | (with_reducible refine Below.setCell ?_ ?_ _) | go_size))
set_option maxRecDepth 100000 in
set_option maxHeartbeats 2000000 in
theorem typText_any (v : Value) (s : St) (t : ByteArray) (w : World) (S : Nat → Prop) (h : LinsR w S v s.lines) (he : EnvT w) (hs : Small s.lines) (hf : Fits s.lines) (hts : t.size ≤ 1000000) :
  Calls Tryz.prog 54 #[stV v s, .string t] w (StSaid (keyS s (textK s t)) w) := by
 obtain ⟨W1, hW1, hB, hz, k0, k1, k2⟩ := st_val_st w v s (.string t) 9
 have HB : Hid (∀ W, Below W1.heap.size W1 W → W.heap[w.heap.size]? = some (.cells #[v, .int .i64 s.anc.line, .int .i64 s.anc.col, .int .i64 s.foc.line, .int .i64 s.foc.col, .int .i64 s.on, .int .i64 s.off] 26) ∧ W.heap[w.heap.size + 2]? = some (.cells #[.slice none 0 0, .int .i64 0, .int .i64 0, .int .i64 0, .int .i64 0, .int .i64 0, .int .i64 0] 26)) := Lib.hid fun W hW => ⟨heap_below hW k0, heap_below hW k2⟩
 have hs1 := hB.size
 have H1 := Lib.hid hB
 have HC := Lib.hid (emptied_any v s 126 #[.pointer (some ⟨w.heap.size + 1, 0, none⟩), .pointer (some ⟨w.heap.size, 0, none⟩)] (textK s t) W1 S (h.below (rdLin_stable _) hB) (he.below hB) hs hf (enters_of Tryz.func126 (by kernel_rfl) rfl)
  (fun hm n W a c hW h1 h2 h3 => text1_any (w.heap.size + 1) w.heap.size v s t n a c W S (heap_below hW k1) (heap_below hW k0) (h.below (rdLin_stable _) (hB.trans (hW.mono hs1))) ((he.below hB).below hW) hs hf hm h3 h2 hts))
 obtain ⟨X, hX⟩ : ∃ X, keyS s (textK s t) = X := ⟨_, rfl⟩
 rw [hX] at HC ⊢
 obtain ⟨p0, f0⟩ := blk k0
 obtain ⟨p1, f1⟩ := blk k1
 obtain ⟨p2, f2⟩ := blk k2
 obtain ⟨va, vc, rfl⟩ := h.slice
 clear h he hs hf hX k0 k1 k2 hB
 go_enter Tryz.func54, Tryz.ntmps54
 go_wp2_with (go_at_call 109; refine HC.out.mono ?_; intro e w2 hsaid; obtain ⟨v2, rfl, hv2, hb2⟩ := hsaid; obtain ⟨a2, c2, rfl⟩ := hv2.slice; have HV2 := Lib.hid hv2; clear hv2; obtain ⟨q2, g2⟩ := blk (HB.out _ hb2).2)
 refine bodyPost_ret (results_st_e rfl _ _ (w.heap.size + 2) (.slice a2 X.1.lines.length c2) (.int .i64 X.1.anc.line) (.int .i64 X.1.anc.col) (.int .i64 X.1.foc.line) (.int .i64 X.1.foc.col) (.int .i64 X.1.on) (.int .i64 X.1.off) (.int .i64 X.2) rfl rfl (by simp [heap_set, putIn, (HB.out _ hb2).2])) rfl ?_
 have hfin := H1.out.trans (hb2.mono hs1)
 have hv2 := HV2.out
 exact ⟨_, rfl, (SliceR.stable (rdLin_stable _) hv2 (by (repeat' (first | (with_reducible exact Keeps.refl _ _) | (with_reducible refine Keeps.set ?_ ?_ _) | (with_reducible refine Keeps.alloc ?_ _) | (with_reducible refine Keeps.drew ?_) | (first | fail) | (simp; omega)))) (fun b h _ => (by have h' := h; (try simp at h'); omega))), by (repeat' (first | (with_reducible exact Below.refl _ _) | (with_reducible assumption) | (with_reducible refine Below.alloc ?_ ?_ _) | (with_reducible refine Below.drew ?_) | (with_reducible refine drewN_below ?_) | (with_reducible refine Below.setCell ?_ ?_ _) | go_size))⟩
end Go.Proofs.YtpndnbjpnajaaaaGreatDoor
namespace Go.Proofs.YtpndnbjpnajaaaaGreatDoor
open Go.RowKit
open Go.Proofs.Qw
set_option maxRecDepth 100000 in
set_option maxHeartbeats 4000000 in
theorem refStOwn_any (v : Value) (s : St) (w : World) (S : Nat → Prop) (h : LinsR w S v s.lines) (hf : Fits s.lines) :
  Calls Tryz.prog 33 #[stV v s] w fun e w' => ∃ v', e = .returned (stV v' s) ∧ DocR true w' (fun b => w.heap.size ≤ b) v' s.lines ∧ Below w.heap.size w w' := by
 obtain ⟨W1, hW1, hB, hz, k0, k1⟩ := st_two w v s
 have hs1 := hB.size
 have HC : Hid (∀ W, Below W1.heap.size W1 W → Calls Tryz.prog 102 #[v] W fun e w' => ∃ v', e = .returned v' ∧ DocR true w' (fun b => W.heap.size ≤ b) v' s.lines ∧ Below W.heap.size W w') := Lib.hid fun W hW => refOwnD_any v s.lines W S (h.below (rdLin_stable _) (hB.trans (hW.mono hs1))) hf
 have HB : Hid (∀ W, Below W1.heap.size W1 W → W.heap[w.heap.size]? = some (.cells #[v, .int .i64 s.anc.line, .int .i64 s.anc.col, .int .i64 s.foc.line, .int .i64 s.foc.col, .int .i64 s.on, .int .i64 s.off] 26) ∧ W.heap[w.heap.size + 1]? = some (.cells #[.slice none 0 0, .int .i64 0, .int .i64 0, .int .i64 0, .int .i64 0, .int .i64 0, .int .i64 0] 26)) := Lib.hid fun W hW => ⟨heap_below hW k0, heap_below hW k1⟩
 have H1 := Lib.hid hB
 have hb0 : Below W1.heap.size W1 W1.drew := (Below.refl _ _).drew
 obtain ⟨p0, f0⟩ := blk k0
 obtain ⟨va, vc, rfl⟩ := h.slice
 clear h hf k0 k1 hB
 go_enter Tryz.func33, Tryz.ntmps33
 go_wp2_with fail
 go_region_held3 (fun w' => w'.cell? ⟨w.heap.size, 0, none⟩ = some (.slice va s.lines.length vc) ∧ w'.cell? ⟨w.heap.size, 1, none⟩ = some (.int .i64 s.anc.line) ∧ w'.cell? ⟨w.heap.size, 2, none⟩ = some (.int .i64 s.anc.col) ∧ w'.cell? ⟨w.heap.size, 3, none⟩ = some (.int .i64 s.foc.line) ∧ w'.cell? ⟨w.heap.size, 4, none⟩ = some (.int .i64 s.foc.col) ∧ w'.cell? ⟨w.heap.size, 5, none⟩ = some (.int .i64 s.on) ∧ w'.cell? ⟨w.heap.size, 6, none⟩ = some (.int .i64 s.off)) (go_keep)
  ((go_at_call 102; refine (HC.out _ hb0).mono ?_; rintro e w2 ⟨v2, rfl, hv2, hb2'⟩; obtain ⟨a2, c2, rfl⟩ := hv2.slice; have hb2 := below_from hb0 hb2'; obtain ⟨q0, g0⟩ := blk (HB.out _ hb2).1; obtain ⟨q1, g1⟩ := blk (HB.out _ hb2).2; have HV := Lib.hid hv2; clear hv2))
 go_wp2_with fail
 refine bodyPost_ret (results_st rfl _ _ (w.heap.size + 1) (.slice a2 s.lines.length c2) (.int .i64 s.anc.line) (.int .i64 s.anc.col) (.int .i64 s.foc.line) (.int .i64 s.foc.col) (.int .i64 s.on) (.int .i64 s.off) rfl (by simp [heap_set, putIn, (HB.out _ hb2).2])) rfl ?_
 have hfin := H1.out.trans (hb2.mono hs1)
 have hv2 := HV.out
 exact ⟨_, rfl, (SliceR.stable (rdLin_stable _) hv2 (by (repeat' (first | (with_reducible exact Keeps.refl _ _) | (with_reducible refine Keeps.set ?_ ?_ _) | (with_reducible refine Keeps.alloc ?_ _) | (with_reducible refine Keeps.drew ?_) | (first | fail) | (simp; omega)))) (fun b h _ => (by have h' := h; (try simp at h'); omega))), by (repeat' (first | (with_reducible exact Below.refl _ _) | (with_reducible assumption) | (with_reducible refine Below.alloc ?_ ?_ _) | (with_reducible refine Below.drew ?_) | (with_reducible refine drewN_below ?_) | (with_reducible refine Below.setCell ?_ ?_ _) | go_size))⟩
end Go.Proofs.YtpndnbjpnajaaaaGreatDoor
namespace Go.Proofs.Qw
open Go.RowKit Go.Proofs.YtpndnbjpnajaaaaGreatDoor
def exRc (r : Int) : Cel := ⟨r, 0, []⟩
def exT0 : Doc := [⟨0, [], 0, [exRc 97, exRc 98]⟩, ⟨0, [0], 0, []⟩]
def exTa : Doc := [⟨0, [], 0, [exRc 97, exRc 120, exRc 121, exRc 98]⟩, ⟨0, [0], 0, []⟩]
def exTb : Doc := [⟨0, [], 0, [exRc 97, exRc 120, exRc 98]⟩, ⟨0, [0], 0, []⟩]
def exTc : Doc := [⟨0, [], 0, [exRc 97]⟩, ⟨0, [], 0, [exRc 98]⟩, ⟨0, [0], 0, []⟩]
def exTd : Doc := [⟨0, [], 0, [exRc 97]⟩]
def exTp : Doc := [⟨0, [], 0, [exRc 97, exRc 98]⟩, ⟨0, [], 0, []⟩]
def exS1 : St := ⟨exT0, ⟨0, 1⟩, ⟨0, 1⟩, 0, 0⟩
def exS2 : St := ⟨exT0, ⟨0, 1⟩, ⟨1, 0⟩, 0, 0⟩
def exS3 : St := ⟨exT0, ⟨1, 0⟩, ⟨1, 0⟩, 0, 0⟩
def exSa : St := ⟨exTa, ⟨0, 3⟩, ⟨0, 3⟩, 0, 0⟩
def exSb : St := ⟨exTb, ⟨0, 2⟩, ⟨0, 2⟩, 0, 0⟩
def exSc : St := ⟨exTc, ⟨1, 0⟩, ⟨1, 0⟩, 0, 0⟩
def exSd : St := ⟨exTd, ⟨0, 1⟩, ⟨0, 1⟩, 0, 0⟩
def exSp : St := ⟨exTp, ⟨1, 0⟩, ⟨1, 0⟩, 0, 0⟩
set_option maxRecDepth 10000 in
theorem ex0_may : mayD exT0 = true := by decide +kernel
theorem exa_may : mayD exTa = true := by decide +kernel
theorem ex_text : keyS exS1 (textK exS1 ⟨#[120, 121]⟩) = (exSa, 0) := by decide +kernel
theorem ex_back : keyS exSa (backK exSa) = (exSb, 0) := by decide +kernel
theorem ex_para : keyS exS1 (paraK exS1) = (exSc, 0) := by decide +kernel
theorem ex_erase : keyS exS2 (eraseK exS2) = (exSd, 0) := by decide +kernel
theorem ex_out : keyS exS3 (paraK exS3) = (exSp, 0) := by decide +kernel
theorem ex_forth : keyS exS3 (forthK exS3) = (noS, 7) := by decide +kernel
end Go.Proofs.Qw
namespace Go.Proofs.YtpndnbjpnajaaaaGreatDoor
open Go.RowKit
open Go.Proofs.Qw
theorem put_line {w : World} {S : Nat → Prop} {b o c : Nat} {O : Doc} (h : DocR true w S (.slice (some ⟨b, o, none⟩) O.length c) O) {i : Nat} {l : Lin} (hi : O[i]? = some l) (l' : Lin) (x1 x2 : Value) (h1 : IntsR true w S x1 l'.lists) (h2 : CelsR true w S x2 l'.cells) :
  ∃ W, (((w.setCell ⟨b, o + i * 4, none⟩ (.int .i64 l'.quote)).setCell ⟨b, o + i * 4 + 1, none⟩ x1).setCell ⟨b, o + i * 4 + 2, none⟩ (.int .i64 l'.kind)).setCell ⟨b, o + i * 4 + 3, none⟩ x2 = W ∧
   DocR true W S (.slice (some ⟨b, o, none⟩) O.length c) (O.set i l') ∧ (∀ d, d ≠ b → W.heap[d]? = w.heap[d]?) ∧ W.heap.size = w.heap.size ∧ (∀ m, m ≤ b → Below m w W) := by
 have hil := (List.getElem?_eq_some_iff.1 hi).1
 have hw := SliceR.write (R := rdLin true) (k := 4) eltLine.tag (by decide) h (p := i) (ys := [l']) (news := [.int .i64 l'.quote, x1, .int .i64 l'.kind, x2]) (by simp; omega)
  (NewsR.one rfl ⟨_, _, rfl, h1, h2⟩) rfl
 refine ⟨_, rfl, ?_, fun d hd => by simp [heap_set, Ne.symm hd], by simp, fun m hm => ((((Below.refl _ _).setCell hm _).setCell hm _).setCell hm _).setCell hm _⟩
 have e : O.take i ++ [l'] ++ O.drop (i + 1) = O.set i l' := (set_at hi l').symm
 simp only [List.length_singleton] at hw
 rw [e] at hw
 exact hw
theorem own_line {w : World} {S : Nat → Prop} {a : Option Addr} {n c : Nat} {O : Doc} (h : DocR true w S (.slice a n c) O) {i : Nat} {l : Lin} (hi : O[i]? = some l) :
  ∃ b o la lc ca cc, a = some ⟨b, o, none⟩ ∧ S b ∧ b < w.heap.size ∧ LinAt w S b (o + i * 4) l la lc ca cc ∧ (∀ k, w.frozen? ⟨b, k, none⟩ = false) ∧ ∃ cs, w.heap[b]? = some (.cells cs 42) := by
 have hil := (List.getElem?_eq_some_iff.1 hi).1
 obtain ⟨b, o, cs, rfl, hb, hcs, hle⟩ := SliceR.cellAt h hil
 obtain ⟨a', c', e, _, _, hx⟩ := lins_shape h.read
 cases e
 obtain ⟨b', o', la, lc, ca, cc, e, hA⟩ := hx i l hi
 cases e
 exact ⟨b, o, la, lc, ca, cc, rfl, hb, hA.lt, hA, fun k => frozen_of_heap hcs, cs, hcs⟩
end Go.Proofs.YtpndnbjpnajaaaaGreatDoor
namespace Go.Proofs.YtpndnbjpnajaaaaGreatDoor
open Go.RowKit
open Go.Proofs.Qw
attribute [local go_sem] Oper.semAt_some
set_option maxRecDepth 100000 in
set_option maxHeartbeats 4000000 in
theorem para1_any (O : Doc) (A : Ps) (n : Nat) (a : Option Addr) (c : Nat) (w : World) (h : DocR true w (fun b => n ≤ b) (.slice a O.length c) O) (hn : n ≤ w.heap.size) (he : EnvT w) (hs : Small O) (hf : Fits O) (hM : mayD O = true) (hA : isD O A = true) :
  Calls Tryz.prog 113 #[.slice a O.length c, posV A] w (DocPB n (putK O A (if (lineAt O A).cells = [] then outdentL (lineAt O A) else none) (splitD O A)) w) := by
 obtain ⟨i, p, l, rfl, hl, hp, hml, hla⟩ := may_at hM hA
 rw [hla]
 obtain ⟨W1, hW1, hB, hz, k0, k1⟩ := two_pos w (.int .i64 i) (.int .i64 p) (.int .i64 0) (.int .i64 0)
 have hs1 := hB.size
 obtain ⟨b, o, la, lc, ca, cc, rfl, hb0, hbz, hAt, hfr, cs, hcs⟩ := own_line (h.below hB) hl
 have hfl := hf.2 l (mem_of_at hl)
 have hsl := hs.2.2 l (mem_of_at hl)
 have hil := (List.getElem?_eq_some_iff.1 hl).1
 have hlen := (h.below hB).len
 have hle := mayL_facts hml
 have HB : Hid (∀ W, Below W1.heap.size W1 W → W.heap[w.heap.size]? = some (.cells #[.int .i64 (⟨i, p⟩ : Ps).line, .int .i64 (⟨i, p⟩ : Ps).col] 24) ∧ W.heap[w.heap.size + 1]? = some (.cells #[.int .i64 0, .int .i64 0] 24)) := Lib.hid fun W hW => ⟨heap_below hW k0, heap_below hW k1⟩
 have hw0 : Below W1.heap.size W1 W1 := Below.refl _ _
 have HOu : Hid (∀ W, Below W1.heap.size W1 W → Calls Tryz.prog 114 #[.agg #[.int .i64 l.quote, .slice la l.lists.length lc, .int .i64 l.kind, .slice ca l.cells.length cc]] W (TurnSaid W (outdentL l))) := Lib.hid fun W hW => lineOutdent_any l la ca lc cc W W1 (fun b => n ≤ b) hAt.listsR hAt.cellsR hW ((he.below hB).below hW) hfl hsl hml
 have HSp : Hid (∀ W, Below W1.heap.size W1 W → Calls Tryz.prog 115 #[.slice (some ⟨b, o, none⟩) O.length c, .agg #[.int .i64 i, .int .i64 p]] W (DocPSaid (splitD O ⟨i, p⟩) W)) := Lib.hid fun W hW => docSplit_any _ O ⟨i, p⟩ W (fun b => n ≤ b) (h.below (hB.trans (hW.mono hs1))).read ((he.below hB).below hW) hs hf
 have HP : Hid (∀ p : Ps, posV p = .agg #[.int .i64 p.line, .int .i64 p.col]) := Lib.hid fun _ => rfl
 rw [HP.out]
 have HO := Lib.hid h
 have H1 := Lib.hid hB
 have HN := Lib.hid hn
 have HL := Lib.hid hl
 have HAt := Lib.hid hAt
 have HBN := Lib.hid hb0
 have hAc := hAt
 obtain ⟨_, c0, c1, c2, c3, _, _⟩ := hAt
 have i0 : (0 : Int) ≤ (i : Int) := Int.natCast_nonneg _
 have i1 : (i : Int) < (O.length : Int) := by omega
 have n1 : ¬ b = w.heap.size := fun e => by rw [e] at hcs; rw [k0] at hcs; cases hcs
 have n2 : ¬ b = w.heap.size + 1 := fun e => by rw [e] at hcs; rw [k1] at hcs; cases hcs
 have HNb := Lib.hid (And.intro n1 n2)
 obtain ⟨p0, f0⟩ := blk k0
 obtain ⟨ro, hro⟩ : ∃ r, outdentL l = r := ⟨_, rfl⟩
 rw [hro] at HOu ⊢
 obtain ⟨Y, q, er, hY⟩ : ∃ Y q er, splitD O ⟨i, p⟩ = (Y, q, er) := ⟨_, _, _, rfl⟩
 rw [hY] at HSp ⊢
 unfold maxLen at hlen
 have HCS := Lib.hid hcs
 have hcn : (Hid (l.cells = []) ∧ (((l.cells.length : Nat) : Int) == 0) = true) ∨ (((l.cells.length : Nat) : Int) == 0) = false := by
  by_cases e : l.cells = []
  ·exact .inl ⟨Lib.hid e, by rw [e]; rfl⟩
  ·have : l.cells.length ≠ 0 := fun e2 => e (List.length_eq_zero_iff.1 e2)
   exact .inr (by simp; exact e)
 cases ro with
 | none =>
  have HR : Hid (putK O ⟨i, p⟩ (if l.cells = [] then none else none) (Y, q, er) = (Y, q, er)) := Lib.hid (by rw [ite_self]; rfl)
  rw [HR.out]
  rcases hcn with ⟨HCE, hcn⟩ | hcn
  ·clear h hB k0 k1 hn he hs hf hM hA hl hla hY hro hcs hAc hfr
   go_enter Tryz.func113, Tryz.ntmps113
   go_wp2_with (first
    | (go_at_call 114; refine (HOu.out _ (hw0.alloc hw0.size _)).mono ?_; rintro e w3 ⟨_, hnone, hst3⟩; obtain rfl := hnone rfl; have hb3 := below_from (hw0.alloc hw0.size _) hst3; have m3 := heap_below hst3 (heap_new _ _ rfl); have r3 := on1 m3; obtain ⟨t0, u0⟩ := blk1 (HB.out _ hb3).1; obtain ⟨t1, u1⟩ := blk1 (HB.out _ hb3).2; have z3 := hb3.size)
    | (go_at_call 115; refine (HSp.out _ (hb3.alloc hb3.size _)).mono ?_; intro e w4 hsaid; obtain ⟨v4, he4, hv4, hst4⟩ := hsaid; rw [HP.out] at he4; subst he4; have hb4 := below_from (hb3.alloc hb3.size _) hst4; have HV4 := Lib.hid hv4; clear hv4; obtain ⟨q1, g1⟩ := blk (HB.out _ hb4).2))
   have hfin := H1.out.trans (hb4.mono hs1)
   refine bodyPost_ret (results_dpe rfl _ _ (w.heap.size + 1) (.int .i64 q.line) (.int .i64 q.col) rfl (by simp [heap_set, putIn, (HB.out _ hb4).2])) rfl ?_
   have hv4 := HV4.out
   have hn4 : n ≤ w.heap.size := HN.out
   refine ⟨_, rfl, (SliceR.stable (rdLin_stable _) hv4 (by (repeat' (first | (with_reducible exact Keeps.refl _ _) | (with_reducible refine Keeps.set ?_ ?_ _) | (with_reducible refine Keeps.alloc ?_ _) | (with_reducible refine Keeps.drew ?_) | (first | fail) | (simp; omega)))) (fun b h _ => (by have h' := h; (try simp at h'); omega))), ?_⟩
   refine Below.mono ?_ HN.out
   (repeat' (first | (with_reducible exact Below.refl _ _) | (with_reducible assumption) | (with_reducible refine Below.alloc ?_ ?_ _) | (with_reducible refine Below.drew ?_) | (with_reducible refine drewN_below ?_) | (with_reducible refine Below.setCell ?_ ?_ _) | go_size))
  ·clear h hB k0 k1 hn he hs hf hM hA hl hla hY hro hcs hAc hfr
   go_enter Tryz.func113, Tryz.ntmps113
   go_wp2_with (first
    | (go_at_call 114; refine (HOu.out _ (hw0.alloc hw0.size _)).mono ?_; rintro e w3 ⟨_, hnone, hst3⟩; obtain rfl := hnone rfl; have hb3 := below_from (hw0.alloc hw0.size _) hst3; have m3 := heap_below hst3 (heap_new _ _ rfl); have r3 := on1 m3; obtain ⟨t0, u0⟩ := blk1 (HB.out _ hb3).1; obtain ⟨t1, u1⟩ := blk1 (HB.out _ hb3).2; have z3 := hb3.size)
    | (go_at_call 115; refine (HSp.out _ (hb3.alloc hb3.size _)).mono ?_; intro e w4 hsaid; obtain ⟨v4, he4, hv4, hst4⟩ := hsaid; rw [HP.out] at he4; subst he4; have hb4 := below_from (hb3.alloc hb3.size _) hst4; have HV4 := Lib.hid hv4; clear hv4; obtain ⟨q1, g1⟩ := blk (HB.out _ hb4).2))
   have hfin := H1.out.trans (hb4.mono hs1)
   refine bodyPost_ret (results_dpe rfl _ _ (w.heap.size + 1) (.int .i64 q.line) (.int .i64 q.col) rfl (by simp [heap_set, putIn, (HB.out _ hb4).2])) rfl ?_
   have hv4 := HV4.out
   have hn4 : n ≤ w.heap.size := HN.out
   refine ⟨_, rfl, (SliceR.stable (rdLin_stable _) hv4 (by (repeat' (first | (with_reducible exact Keeps.refl _ _) | (with_reducible refine Keeps.set ?_ ?_ _) | (with_reducible refine Keeps.alloc ?_ _) | (with_reducible refine Keeps.drew ?_) | (first | fail) | (simp; omega)))) (fun b h _ => (by have h' := h; (try simp at h'); omega))), ?_⟩
   refine Below.mono ?_ HN.out
   (repeat' (first | (with_reducible exact Below.refl _ _) | (with_reducible assumption) | (with_reducible refine Below.alloc ?_ ?_ _) | (with_reducible refine Below.drew ?_) | (with_reducible refine drewN_below ?_) | (with_reducible refine Below.setCell ?_ ?_ _) | go_size))
 | some l' =>
  rcases hcn with ⟨HCE, hcn⟩ | hcn
  ·have HR : Hid (putK O ⟨i, p⟩ (if l.cells = [] then some l' else none) (Y, q, er) = (O.set i l', ⟨i, p⟩, 0)) := Lib.hid (by rw [if_pos HCE.out]; rfl)
   rw [HR.out]
   clear h hB k0 k1 hn he hs hf hM hA hl hla hY hro hcs hAc hfr
   go_enter Tryz.func113, Tryz.ntmps113
   go_wp2_with (go_at_call 114; refine (HOu.out _ (hw0.alloc hw0.size _)).mono ?_; rintro e w3 ⟨hsome, _, hst3⟩; obtain ⟨a', b', he', ha', hb'⟩ := hsome _ rfl; obtain ⟨a1, cc1, rfl⟩ := ha'.slice; obtain ⟨a2, cc2, rfl⟩ := hb'.slice; simp only [linV] at he'; subst he'; have hb3 := below_from (hw0.alloc hw0.size _) hst3; have m3 := heap_below hst3 (heap_new _ _ rfl); have r3 := on1 m3; obtain ⟨t0, u0⟩ := blk1 (HB.out _ hb3).1; obtain ⟨t1, u1⟩ := blk1 (HB.out _ hb3).2; have z3 := hb3.size; have n5 : ¬ b = w3.heap.size := (by omega); have n6 : ¬ w3.heap.size = b := (by omega); have n7 : ¬ w.heap.size = b := (fun e => n1 e.symm); have n8 : ¬ w.heap.size + 1 = b := (fun e => n2 e.symm); obtain ⟨_, d0, d1, d2, d3, _, _⟩ := HAt.out.below hb3; have e0 := cell_on d0; have e1 := cell_on d1; have e2 := cell_on d2; have e3 := cell_on d3; have g3 := fun X k => (blk1 (heap_below hb3 HCS.out)).2 X k; have g4 := fun k => (blk (heap_below hb3 HCS.out)).2 k; have n9 : b < w3.heap.size := (by omega); have HAB := Lib.hid (And.intro ha' hb'); clear ha' hb')
   have hO3 : DocR true w3 (fun b => n ≤ b ∧ ¬ b = w.heap.size + 1) (.slice (some ⟨b, o, none⟩) O.length c) O := SliceR.stable (rdLin_stable true) (SliceR.bounded (rdLin_stable true) HO.out) (Keeps.all (H1.out.trans (hb3.mono hs1))) (fun b h _ => ⟨h.1, fun e => by have := h.2; omega⟩)
   obtain ⟨W5, hW5, hD5, hk5, hz5, hb5⟩ := put_line hO3 HL.out l' (.slice a1 l'.lists.length cc1) (.slice a2 l'.cells.length cc2) (HAB.out.1.stable (rdOf_stable _) (Keeps.refl _ _) (fun b h _ => by have h' : (W1.alloc _).heap.size ≤ b := h; simp at h'; have := HN.out; exact ⟨by omega, by omega⟩)) (HAB.out.2.stable (rdOf_stable _) (Keeps.refl _ _) (fun b h _ => by have h' : (W1.alloc _).heap.size ≤ b := h; simp at h'; have := HN.out; exact ⟨by omega, by omega⟩))
   rw [hW5]
   have j0 := (hk5 w.heap.size (fun e => HNb.out.1 e.symm)).trans (HB.out _ hb3).1
   have j1 := (hk5 (w.heap.size + 1) (fun e => HNb.out.2 e.symm)).trans (HB.out _ hb3).2
   have HJ := Lib.hid (And.intro j1 (And.intro hD5 (And.intro (hb5 n HBN.out) hz5)))
   clear hk5 hD5 hb5 hW5 hO3 d0 d1 d2 d3 e0 e1 e2 e3 g3 g4 t0 t1 u0 u1 hz5
   obtain ⟨p5, f5⟩ := blk1 j0
   obtain ⟨p6, f6⟩ := blk1 j1
   go_region
   go_wp2_with fail
   refine bodyPost_ret (results_dpe rfl _ _ (w.heap.size + 1) (.int .i64 i) (.int .i64 p) rfl (by rw [drew_heap]; simp [heap_set, putIn, heap_old _ _ HJ.out.1])) rfl ?_
   have hD5 := HJ.out.2.1
   have hn5 : n ≤ w.heap.size := HN.out
   have hfin : Below n w W5 := ((H1.out.trans (hb3.mono hs1)).mono hn5).trans HJ.out.2.2.1
   have hzz := hfin.size
   refine ⟨_, rfl, ?_, ?_⟩
   ·show DocR true _ _ (.slice (some ⟨b, o, none⟩) O.length c) (O.set i l')
    exact SliceR.stable (rdLin_stable true) hD5 (by (repeat' (first | (with_reducible exact Keeps.refl _ _) | (with_reducible refine Keeps.set ?_ ?_ _) | (with_reducible refine Keeps.alloc ?_ _) | (with_reducible refine Keeps.drew ?_) | (first | (simp; done)) | (simp; omega)))) (fun b h _ => h.1)
   ·(repeat' (first | (with_reducible exact Below.refl _ _) | (with_reducible assumption) | (with_reducible refine Below.alloc ?_ ?_ _) | (with_reducible refine Below.drew ?_) | (with_reducible refine drewN_below ?_) | (with_reducible refine Below.setCell ?_ ?_ _) | go_size))
  ·have HR : Hid (putK O ⟨i, p⟩ (if l.cells = [] then some l' else none) (Y, q, er) = (Y, q, er)) := Lib.hid (by rw [if_neg (fun e => by rw [e] at hcn; exact absurd hcn (by decide))]; rfl)
   rw [HR.out]
   clear h hB k0 k1 hn he hs hf hM hA hl hla hY hro hcs hAc hfr
   go_enter Tryz.func113, Tryz.ntmps113
   go_wp2_with (first
    | (go_at_call 114; refine (HOu.out _ (hw0.alloc hw0.size _)).mono ?_; rintro e w3 ⟨hsome, _, hst3⟩; obtain ⟨a', b', he', ha', hb'⟩ := hsome _ rfl; obtain ⟨a1, cc1, rfl⟩ := ha'.slice; obtain ⟨a2, cc2, rfl⟩ := hb'.slice; simp only [linV] at he'; subst he'; have hb3 := below_from (hw0.alloc hw0.size _) hst3; have m3 := heap_below hst3 (heap_new _ _ rfl); have r3 := on1 m3; obtain ⟨t0, u0⟩ := blk1 (HB.out _ hb3).1; obtain ⟨t1, u1⟩ := blk1 (HB.out _ hb3).2; have z3 := hb3.size; have n5 : ¬ b = w3.heap.size := (by omega); have n6 : ¬ w3.heap.size = b := (by omega); have n7 : ¬ w.heap.size = b := (fun e => n1 e.symm); have n8 : ¬ w.heap.size + 1 = b := (fun e => n2 e.symm); obtain ⟨_, d0, d1, d2, d3, _, _⟩ := HAt.out.below hb3; have e0 := cell_on d0; have e1 := cell_on d1; have e2 := cell_on d2; have e3 := cell_on d3; have g3 := fun X k => (blk1 (heap_below hb3 HCS.out)).2 X k; have g4 := fun k => (blk (heap_below hb3 HCS.out)).2 k; have n9 : b < w3.heap.size := (by omega); have HAB := Lib.hid (And.intro ha' hb'); clear ha' hb')
    | (go_at_call 115; refine (HSp.out _ (hb3.alloc hb3.size _)).mono ?_; intro e w4 hsaid; obtain ⟨v4, he4, hv4, hst4⟩ := hsaid; rw [HP.out] at he4; subst he4; have hb4 := below_from (hb3.alloc hb3.size _) hst4; have HV4 := Lib.hid hv4; clear hv4; obtain ⟨q1, g1⟩ := blk (HB.out _ hb4).2))
   have hfin := H1.out.trans (hb4.mono hs1)
   refine bodyPost_ret (results_dpe rfl _ _ (w.heap.size + 1) (.int .i64 q.line) (.int .i64 q.col) rfl (by simp [heap_set, putIn, (HB.out _ hb4).2])) rfl ?_
   have hv4 := HV4.out
   have hn4 : n ≤ w.heap.size := HN.out
   refine ⟨_, rfl, (SliceR.stable (rdLin_stable _) hv4 (by (repeat' (first | (with_reducible exact Keeps.refl _ _) | (with_reducible refine Keeps.set ?_ ?_ _) | (with_reducible refine Keeps.alloc ?_ _) | (with_reducible refine Keeps.drew ?_) | (first | fail) | (simp; omega)))) (fun b h _ => (by have h' := h; (try simp at h'); omega))), ?_⟩
   refine Below.mono ?_ HN.out
   (repeat' (first | (with_reducible exact Below.refl _ _) | (with_reducible assumption) | (with_reducible refine Below.alloc ?_ ?_ _) | (with_reducible refine Below.drew ?_) | (with_reducible refine drewN_below ?_) | (with_reducible refine Below.setCell ?_ ?_ _) | go_size))
set_option maxRecDepth 100000 in
set_option maxHeartbeats 2000000 in
theorem typParagraph_any (v : Value) (s : St) (w : World) (S : Nat → Prop) (h : LinsR w S v s.lines) (he : EnvT w) (hs : Small s.lines) (hf : Fits s.lines) :
  Calls Tryz.prog 48 #[stV v s] w (StSaid (keyS s (paraK s)) w) := by
 obtain ⟨W1, hW1, hB, hz, k0, k1⟩ := st_two w v s
 have HB : Hid (∀ W, Below W1.heap.size W1 W → W.heap[w.heap.size]? = some (.cells #[v, .int .i64 s.anc.line, .int .i64 s.anc.col, .int .i64 s.foc.line, .int .i64 s.foc.col, .int .i64 s.on, .int .i64 s.off] 26) ∧ W.heap[w.heap.size + 1]? = some (.cells #[.slice none 0 0, .int .i64 0, .int .i64 0, .int .i64 0, .int .i64 0, .int .i64 0, .int .i64 0] 26)) := Lib.hid fun W hW => ⟨heap_below hW k0, heap_below hW k1⟩
 have hs1 := hB.size
 have H1 := Lib.hid hB
 have HC := Lib.hid (emptied_any v s 113 #[] (paraK s) W1 S (h.below (rdLin_stable _) hB) (he.below hB) hs hf (enters_of Tryz.func113 (by kernel_rfl) rfl)
  (fun hm n W a c hW h1 h2 h3 => para1_any (outS s) (spanS s).1 n a c W h3 h2 ((he.below hB).below hW) (may_small (out_facts hm).1).1 (may_small (out_facts hm).1).2 (out_facts hm).1 (out_facts hm).2.2.1))
 obtain ⟨X, hX⟩ : ∃ X, keyS s (paraK s) = X := ⟨_, rfl⟩
 rw [hX] at HC ⊢
 obtain ⟨p0, f0⟩ := blk k0
 obtain ⟨p1, f1⟩ := blk k1
 obtain ⟨va, vc, rfl⟩ := h.slice
 clear h he hs hf hX k0 k1 hB
 go_enter Tryz.func48, Tryz.ntmps48
 go_wp2_with (go_at_call 109; refine HC.out.mono ?_; intro e w2 hsaid; obtain ⟨v2, rfl, hv2, hb2⟩ := hsaid; obtain ⟨a2, c2, rfl⟩ := hv2.slice; have HV2 := Lib.hid hv2; clear hv2; obtain ⟨q2, g2⟩ := blk (HB.out _ hb2).2)
 refine bodyPost_ret (results_st_e rfl _ _ (w.heap.size + 1) (.slice a2 X.1.lines.length c2) (.int .i64 X.1.anc.line) (.int .i64 X.1.anc.col) (.int .i64 X.1.foc.line) (.int .i64 X.1.foc.col) (.int .i64 X.1.on) (.int .i64 X.1.off) (.int .i64 X.2) rfl rfl (by simp [heap_set, putIn, (HB.out _ hb2).2])) rfl ?_
 have hfin := H1.out.trans (hb2.mono hs1)
 have hv2 := HV2.out
 exact ⟨_, rfl, (SliceR.stable (rdLin_stable _) hv2 (by (repeat' (first | (with_reducible exact Keeps.refl _ _) | (with_reducible refine Keeps.set ?_ ?_ _) | (with_reducible refine Keeps.alloc ?_ _) | (with_reducible refine Keeps.drew ?_) | (first | fail) | (simp; omega)))) (fun b h _ => (by have h' := h; (try simp at h'); omega))), by (repeat' (first | (with_reducible exact Below.refl _ _) | (with_reducible assumption) | (with_reducible refine Below.alloc ?_ ?_ _) | (with_reducible refine Below.drew ?_) | (with_reducible refine drewN_below ?_) | (with_reducible refine Below.setCell ?_ ?_ _) | go_size))⟩
end Go.Proofs.YtpndnbjpnajaaaaGreatDoor
