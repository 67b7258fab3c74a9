/- The walk of the law RenderUnlike. -/
import Derived.Test.YteognfhemmogpaaDoorNodSameL
import Derived.Test.YteognfhemmogpaaDoorRenAlikeL
set_option linter.unusedVariables false
set_option linter.unusedSimpArgs false
namespace Go.Proofs.YteognfhemmogpaaDoor
open Go.RowKit
open Go.Proofs.Qw
attribute [local go_sem] Oper.semAt_some
def HostSaid (d : Doc) (m : Bool) (W : World) (e : Ending) (w' : World) : Prop := match m with
 | true => ∃ ka kc, e = .returned (.tuple #[.agg #[.int .i64 1, .slice none 0 0, .string ⟨#[]⟩, .slice ka (hostN d).kids.length kc], .int .i64 0]) ∧ NodsR false 40 w' (fun _ => True) (.slice ka (hostN d).kids.length kc) (hostN d).kids ∧ Below W.heap.size W w'
 | false => e = .returned (.tuple #[.agg #[.int .i64 0, .slice none 0 0, .string ⟨#[]⟩, .slice none 0 0], .int .i64 1]) ∧ Below W.heap.size W w'
theorem host_said (v : Value) (d : List Lin) (w w0 : World) (S : Nat → Prop) (hv : LinsR w0 S v d) (he : EnvT w) (h0 : Below w0.heap.size w0 w) (hs : Small d) :
  Calls Tryd.prog 11 #[v] w (HostSaid d (mayD d) w) := by
 cases hm : mayD d
 ·exact host_no v d w w0 S hv he h0 hs hm
 ·refine (host_yes v d w w0 S hv he h0 hm).mono fun _ _ ⟨k', h1, h2, h3⟩ => ?_
  have h2' := (h2.read (R' := rdNod false 40) (fun _ _ g => rdNod_read g)).stable (rdNod_stable _ _) (Keeps.refl _ _) (S' := fun _ => True) (fun _ _ _ => trivial)
  obtain ⟨ka, kc, rfl⟩ := h2'.slice
  exact ⟨ka, kc, h1, h2', h3⟩
set_option maxRecDepth 100000 in
set_option maxHeartbeats 4000000 in
theorem lawRenUnlike_any (v1 v2 : Value) (d1 d2 : Doc) (w : World) (S1 S2 : Nat → Prop) (h1 : LinsR w S1 v1 d1) (h2 : LinsR w S2 v2 d2) (s1 : Sane d1) (s2 : Sane d2) (he : EnvT w) :
  Calls Tryd.prog 4 #[v1, v2] w fun e w' => e = .returned (.bool true) ∧ Below w.heap.size w w' := by
 have HL1 : Hid (∀ W, Below w.heap.size w W → Calls Tryd.prog 5 #[v1] W (LongSaid d1 W)) := Lib.hid fun W hW => long19_any v1 d1 W S1 (h1.below (rdLin_stable _) hW) s1
 have HL2 : Hid (∀ W, Below w.heap.size w W → Calls Tryd.prog 5 #[v2] W (LongSaid d2 W)) := Lib.hid fun W hW => long19_any v2 d2 W S2 (h2.below (rdLin_stable _) hW) s2
 have HA : Hid (∀ W, Below w.heap.size w W → Calls Tryd.prog 6 #[] W fun e w' => e = .returned (.bool true) ∧ Below W.heap.size W w') := Lib.hid fun W hW => awake19_any W (he.below hW)
 have HH1 : Hid (Small d1 → ∀ W, Below w.heap.size w W → Calls Tryd.prog 11 #[v1] W (HostSaid d1 (mayD d1) W)) := Lib.hid fun hs W hW => host_said v1 d1 W w S1 h1 (he.below hW) hW hs
 have HH2 : Hid (Small d2 → ∀ W, Below w.heap.size w W → Calls Tryd.prog 11 #[v2] W (HostSaid d2 (mayD d2) W)) := Lib.hid fun hs W hW => host_said v2 d2 W w S2 h2 (he.below hW) hW hs
 obtain ⟨z, hz⟩ : ∃ z, decide (d1 = d2) = z := ⟨_, rfl⟩
 have HR : Hid (∀ W, Below w.heap.size w W → Calls Tryd.prog 13 #[v1, v2] W fun e w' => e = .returned (.bool z) ∧ Below W.heap.size W w') := Lib.hid fun W hW => hz ▸ refSame_any v1 v2 d1 d2 W S1 S2 (h1.below (rdLin_stable _) hW) (h2.below (rdLin_stable _) hW)
 have HS : Hid (mayD d1 = true → mayD d2 = true → ∀ X ka kc la lc, NodsR false 40 X (fun _ => True) (.slice ka (hostN d1).kids.length kc) (hostN d1).kids → NodsR false 40 X (fun _ => True) (.slice la (hostN d2).kids.length lc) (hostN d2).kids →
   Calls Tryd.prog 12 #[.agg #[.int .i64 1, .slice none 0 0, .string ⟨#[]⟩, .slice ka (hostN d1).kids.length kc], .agg #[.int .i64 1, .slice none 0 0, .string ⟨#[]⟩, .slice la (hostN d2).kids.length lc]] X fun e X' => e = .returned (.bool z) ∧ Below X.heap.size X X') := Lib.hid fun m1 m2 X ka kc la lc k1 k2 => by
  have := nodSame_any 40 (hostN d1) (hostN d2) (.slice none 0 0) _ (.slice none 0 0) _ X _ _ (SliceR.nil _ _ _ _ _ _) k1 (SliceR.nil _ _ _ _ _ _) k2
  rw [show decide (hostN d1 = hostN d2) = z by rw [← hz]; exact decide_eq_decide.2 (host_unlike m1 m2)] at this
  exact this
 obtain ⟨a1, c1, rfl⟩ := h1.slice
 obtain ⟨a2, c2, rfl⟩ := h2.slice
 obtain ⟨m1, hm1⟩ : ∃ m, mayD d1 = m := ⟨_, rfl⟩
 obtain ⟨m2, hm2⟩ : ∃ m, mayD d2 = m := ⟨_, rfl⟩
 rw [hm1] at HH1 HS
 rw [hm2] at HH2 HS
 generalize d1.length = n1 at *
 generalize d2.length = n2 at *
 have hw0 : Below w.heap.size w w := Below.refl _ _
 clear h1 h2 s1 s2 he hm1 hm2 hz
 go_enter Tryd.func4, Tryd.ntmps4
 go_wp2_with fail
 refine (HL1.out _ hw0).mono ?_
 rintro e w1 ⟨r1, rfl, hr1, hb1⟩
 cases r1
 ·have hs1 := (hr1 rfl).small
  have HH1s := Lib.hid (HH1.out hs1)
  clear hr1 hs1 HH1
  go_wp2_with fail
  refine (HL2.out _ hb1).mono ?_
  rintro e w2 ⟨r2, rfl, hr2, hb2⟩
  have hx2 := below_from hb1 hb2
  cases r2
  ·have hs2 := (hr2 rfl).small
   have HH2s := Lib.hid (HH2.out hs2)
   clear hr2 hs2 HH2 hb1 hb2
   cases m1
   ·cases m2
    ·clear HS
     go_wp2_with (first
      | (go_at_call 11; (with_reducible refine (HH1s.out _ hx2).mono ?_); rintro e w3 ⟨rfl, hb3⟩; have hx3 := below_from hx2 hb3)
      | (go_at_call 11; (with_reducible refine (HH2s.out _ (hx3.alloc hx3.size _)).mono ?_); rintro e w4 ⟨rfl, hb4⟩; have hx4 := below_from (hx3.alloc hx3.size _) hb4; have hx4a := hx4.alloc hx4.size (.cells #[.int .i64 0, .slice none 0 0, .string ⟨#[]⟩, .slice none 0 0] 41))
      | (go_at_call 6; refine (HA.out _ hx4a).mono ?_; rintro e w5 ⟨rfl, hb5⟩))
     go_ret
     exact ⟨rfl, below_from hx4a hb5⟩
    ·clear HS
     go_wp2_with (first
      | (go_at_call 11; (with_reducible refine (HH1s.out _ hx2).mono ?_); rintro e w3 ⟨rfl, hb3⟩; have hx3 := below_from hx2 hb3)
      | (go_at_call 11; (with_reducible refine (HH2s.out _ (hx3.alloc hx3.size _)).mono ?_); rintro e w4 ⟨ka, kc, rfl, _, hb4⟩; have hx4 := below_from (hx3.alloc hx3.size _) hb4)
      | (go_at_call 6; refine (HA.out _ (hx4.alloc hx4.size _)).mono ?_; rintro e w5 ⟨rfl, hb5⟩; have hx5 := below_from (hx4.alloc hx4.size _) hb5))
     go_ret
     exact ⟨rfl, hx5⟩
   ·cases m2
    ·clear HS
     go_wp2_with (first
      | (go_at_call 11; (with_reducible refine (HH1s.out _ hx2).mono ?_); rintro e w3 ⟨ka, kc, rfl, _, hb3⟩; have hx3 := below_from hx2 hb3)
      | (go_at_call 11; (with_reducible refine (HH2s.out _ (hx3.alloc hx3.size _)).mono ?_); rintro e w4 ⟨rfl, hb4⟩; have hx4 := below_from (hx3.alloc hx3.size _) hb4)
      | (go_at_call 6; refine (HA.out _ (hx4.alloc hx4.size _)).mono ?_; rintro e w5 ⟨rfl, hb5⟩; have hx5 := below_from (hx4.alloc hx4.size _) hb5))
     go_ret
     exact ⟨rfl, hx5⟩
    ·have HSs := Lib.hid (HS.out rfl rfl)
     clear HS
     cases z
     all_goals
      go_wp2_with (first
       | (go_at_call 11; (with_reducible refine (HH1s.out _ hx2).mono ?_); rintro e w3 ⟨ka, kc, rfl, hk3, hb3⟩; have HK3 := Lib.hid hk3; have hx3 := below_from hx2 hb3; clear hk3)
       | (go_at_call 11; (with_reducible refine (HH2s.out _ (hx3.alloc hx3.size _)).mono ?_); rintro e w4 ⟨la, lc, rfl, hk4, hb4⟩; have HK4 := Lib.hid hk4; have hx4 := below_from (hx3.alloc hx3.size _) hb4; have hN4 := heap_below hb4 (heap_new _ _ rfl); obtain ⟨q1, g1⟩ := blk hN4; have zn : w3.heap.size < w4.heap.size := alloc_le hb4.size; have HK34 := Lib.hid (HK3.out.below (rdNod_stable _ _) (below_from ((Below.refl _ _).alloc (Nat.le_refl _) _) hb4)); clear hk4)
       | (go_at_call 12; (with_reducible refine (HSs.out _ _ _ _ _ (HK34.out.below (rdNod_stable _ _) ((Below.refl _ _).alloc (Nat.le_refl _) _)) (HK4.out.below (rdNod_stable _ _) ((Below.refl _ _).alloc (Nat.le_refl _) _))).mono ?_); rintro e w5 ⟨rfl, hb5⟩; have hx5 := below_from (hx4.alloc hx4.size _) hb5)
       | (go_at_call 13; (with_reducible refine (HR.out _ hx5).mono ?_); rintro e w6 ⟨rfl, hb6⟩; have hx6 := below_from hx5 hb6)
       | (go_at_call 6; refine (HA.out _ hx6).mono ?_; rintro e w7 ⟨rfl, hb7⟩; have hx7 := below_from hx6 hb7))
      go_ret
      exact ⟨rfl, hx7⟩
  ·clear hr2 HH2 HS
   go_wp2_with (go_at_call 6; refine (HA.out _ hx2).mono ?_; rintro e w4 ⟨rfl, hb4⟩)
   go_ret
   exact ⟨rfl, below_from hx2 hb4⟩
 ·clear hr1 HH1 HH2 HS
  go_wp2_with (go_at_call 6; refine (HA.out _ hb1).mono ?_; rintro e w4 ⟨rfl, hb4⟩)
  go_ret
  exact ⟨rfl, below_from hb1 hb4⟩
end Go.Proofs.YteognfhemmogpaaDoor
