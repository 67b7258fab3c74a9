/- The walk of the law RenderTidy. -/
import Derived.Test.YteognfhemmogpaaGreatDoorRenTidyWT
import Derived.Test.YteognfhemmogpaaGreatDoorRenAlikeT
set_option linter.unusedVariables false
set_option linter.unusedSimpArgs false
namespace Go.Proofs.YteognfhemmogpaaGreatDoor
open Go.RowKit
open Go.Proofs.Qw
attribute [local go_sem] Oper.semAt_some
set_option maxRecDepth 100000 in
set_option maxHeartbeats 4000000 in
theorem lawRenTidy_any (v : Value) (d : Doc) (w : World) (S : Nat → Prop) (h : LinsR w S v d) (hs : Sane d) (he : EnvT w) :
  Calls Tryz.prog 5 #[v] w fun e w' => e = .returned (.bool true) ∧ Below w.heap.size w w' := by
 have HL : Hid (Calls Tryz.prog 6 #[v] w (LongSaid d w)) := Lib.hid (long19_any v d w S h hs)
 have HA : Hid (∀ W, Below w.heap.size w W → Calls Tryz.prog 8 #[] W fun e w' => e = .returned (.bool true) ∧ Below W.heap.size W w') := Lib.hid fun W hW => awake19_any W (he.below hW)
 have HMy : Hid (Small d → ∀ W, Below w.heap.size w W → Calls Tryz.prog 19 #[v] W fun e w' => e = .returned (.bool (mayD d)) ∧ Below W.heap.size W w') := Lib.hid fun hsm W hW => refMay_any v d W S (h.below (rdLin_stable _) hW) hsm
 have HY : Hid (mayD d = true → ∀ W, Below w.heap.size w W → Calls Tryz.prog 12 #[v] W fun e w' => ∃ ka kn kc, e = .returned (.tuple #[.agg #[.int .i64 1, .slice none 0 0, .string ⟨#[]⟩, .slice ka kn kc], .int .i64 0]) ∧ 0 < kn ∧
   (∀ X, Below w'.heap.size w' X → Calls Tryz.prog 20 #[.agg #[.int .i64 1, .slice none 0 0, .string ⟨#[]⟩, .slice ka kn kc], .int .i64 0] X fun e X' => e = .returned (.bool true) ∧ Below X.heap.size X X') ∧ Below W.heap.size W w') := Lib.hid fun hm W hW => (host_yes v d W w S h (he.below hW) hW hm).mono fun _ _ ⟨k', h1, h2, h3⟩ => by
  obtain ⟨t1, t2, t3⟩ := host_tidy hm
  have h2' := h2.read (R' := rdNod false 40) (fun _ _ g => rdNod_read g)
  obtain ⟨ka, kc, rfl⟩ := h2.slice
  refine ⟨ka, _, kc, h1, List.length_pos_iff.2 t3, fun X hX => ?_, h3⟩
  exact tidy_all 40 (hostN d) (.slice none 0 0) _ 0 X _ (SliceR.nil _ _ _ _ _ _) (h2'.below (rdNod_stable _ _) hX) t1 (by omega) (by omega)
 have HN : Hid (mayD d = false → Small d → ∀ W, Below w.heap.size w W → Calls Tryz.prog 12 #[v] W fun e w' => e = .returned (.tuple #[.agg #[.int .i64 0, .slice none 0 0, .string ⟨#[]⟩, .slice none 0 0], .int .i64 1]) ∧ Below W.heap.size W w') := Lib.hid fun hm hsm W hW => host_no v d W w S h (he.below hW) hW hsm hm
 obtain ⟨va, vc, rfl⟩ := h.slice
 obtain ⟨m, hm⟩ : ∃ m, mayD d = m := ⟨_, rfl⟩
 rw [hm] at HMy HY HN
 generalize d.length = dn at *
 clear h hs he hm
 go_enter Tryz.func5, Tryz.ntmps5
 go_wp2_with fail
 refine HL.out.mono ?_
 rintro e w1 ⟨r, rfl, hr, hb1⟩
 cases r
 ·have hsm := (hr rfl).small
  clear hr
  cases m
  ·have HN2 := Lib.hid (HN.out rfl hsm)
   have HM2 := Lib.hid (HMy.out hsm)
   clear HY hsm HN HMy
   go_wp2_with (first
    | (go_at_call 12; refine (HN2.out _ hb1).mono ?_; rintro e w2 ⟨rfl, hb2⟩; have hx2 := below_from hb1 hb2)
    | (go_at_call 19; refine (HM2.out _ (hx2.alloc hx2.size _)).mono ?_; rintro e w3 ⟨rfl, hb3⟩; have hx3 := below_from (hx2.alloc hx2.size _) hb3)
    | (go_at_call 8; refine (HA.out _ hx3).mono ?_; rintro e w4 ⟨rfl, hb4⟩))
   go_ret
   exact ⟨rfl, below_from hx3 hb4⟩
  ·have HY2 := Lib.hid (HY.out rfl)
   clear HN HMy hsm HY
   go_wp2_with (first
    | (go_at_call 12; refine (HY2.out _ hb1).mono ?_; rintro e w2 ⟨ka, kn, kc, rfl, hkn, hti, hb2⟩; have hx2 := below_from hb1 hb2; have HT := Lib.hid hti; have hk1 : (0 : Int) < (kn : Int) := Int.ofNat_lt.2 hkn; clear hti)
    | (go_at_call 20; refine (HT.out _ ((Below.refl _ _).alloc (Nat.le_refl _) _)).mono ?_; rintro e w3 ⟨rfl, hb3⟩; have hx3 := below_from (hx2.alloc hx2.size _) hb3)
    | (go_at_call 8; refine (HA.out _ hx3).mono ?_; rintro e w4 ⟨rfl, hb4⟩))
   go_ret
   exact ⟨rfl, below_from hx3 hb4⟩
 ·clear hr HMy HY HN
  go_wp2_with (go_at_call 8; refine (HA.out _ hb1).mono ?_; rintro e w4 ⟨rfl, hb4⟩)
  go_ret
  exact ⟨rfl, below_from hb1 hb4⟩
end Go.Proofs.YteognfhemmogpaaGreatDoor
