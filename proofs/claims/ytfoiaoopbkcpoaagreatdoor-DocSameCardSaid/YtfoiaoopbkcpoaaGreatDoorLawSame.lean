/- The walk of the law DocSame. -/
import Derived.Test.YtfoiaoopbkcpoaaGreatDoorSame
import Derived.Test.YtfoiaoopbkcpoaaGreatDoorIs
import Derived.Test.YtfoiaoopbkcpoaaGreatDoorAwake
namespace Go.Proofs.YtfoiaoopbkcpoaaGreatDoor
open Go.RowKit
open Go.Proofs.Qw

set_option maxRecDepth 100000 in
set_option maxHeartbeats 2000000 in
theorem lawSame_any (v1 v2 : Value) (d1 d2 : Doc) (w : World) (S1 S2 : Nat → Prop) (h1 : LinsR w S1 v1 d1) (h2 : LinsR w S2 v2 d2) (s1 : Sane d1) (s2 : Sane d2) (he : EnvT w) :
    Calls Tryz.prog 6 #[v1, v2] w fun e w' => e = .returned (.bool true) ∧ Below w.heap.size w w' := by
  obtain ⟨r, hr⟩ : ∃ r, decide (d1 = d2) = r := ⟨_, rfl⟩
  have hr2 : decide (d2 = d1) = r := by rw [← hr]; exact decide_eq_decide.2 eq_comm
  have HL1 : Hid (∀ W, Below w.heap.size w W → Calls Tryz.prog 10 #[v1] W fun e w' => ∃ r, e = .returned (.bool r) ∧ Below W.heap.size W w') := Lib.hid fun W hW => (long_any v1 d1 W S1 (h1.below (rdLin_stable _) hW) s1).mono fun _ _ ⟨r, h1, _, h3⟩ => ⟨r, h1, h3⟩
  have HL2 : Hid (∀ W, Below w.heap.size w W → Calls Tryz.prog 10 #[v2] W fun e w' => ∃ r, e = .returned (.bool r) ∧ Below W.heap.size W w') := Lib.hid fun W hW => (long_any v2 d2 W S2 (h2.below (rdLin_stable _) hW) s2).mono fun _ _ ⟨r, h1, _, h3⟩ => ⟨r, h1, h3⟩
  have HA : Hid (∀ W, Below w.heap.size w W → Calls Tryz.prog 11 #[] W fun e w' => e = .returned (.bool true) ∧ Below W.heap.size W w') := Lib.hid fun W hW => awake_any W (he.below hW)
  have HS12 : Hid (∀ W, Below w.heap.size w W → Calls Tryz.prog 47 #[v1, v2] W fun e w' => e = .returned (.bool r) ∧ Below W.heap.size W w') := Lib.hid fun W hW => hr ▸ docSame_any v1 v2 d1 d2 W S1 S2 (h1.below (rdLin_stable _) hW) (h2.below (rdLin_stable _) hW)
  have HS21 : Hid (∀ W, Below w.heap.size w W → Calls Tryz.prog 47 #[v2, v1] W fun e w' => e = .returned (.bool r) ∧ Below W.heap.size W w') := Lib.hid fun W hW => hr2 ▸ docSame_any v2 v1 d2 d1 W S2 S1 (h2.below (rdLin_stable _) hW) (h1.below (rdLin_stable _) hW)
  have HS11 : Hid (∀ W, Below w.heap.size w W → Calls Tryz.prog 47 #[v1, v1] W fun e w' => e = .returned (.bool true) ∧ Below W.heap.size W w') := Lib.hid fun W hW => by
    have := docSame_any v1 v1 d1 d1 W S1 S1 (h1.below (rdLin_stable _) hW) (h1.below (rdLin_stable _) hW)
    rwa [show decide (d1 = d1) = true from decide_eq_true rfl] at this
  have HR12 : Hid (∀ W, Below w.heap.size w W → Calls Tryz.prog 33 #[v1, v2] W fun e w' => e = .returned (.bool r) ∧ Below W.heap.size W w') := Lib.hid fun W hW => hr ▸ refSame_any v1 v2 d1 d2 W S1 S2 (h1.below (rdLin_stable _) hW) (h2.below (rdLin_stable _) hW)
  have hw0 : Below w.heap.size w w := Below.refl _ _
  obtain ⟨a1, c1, rfl⟩ := h1.slice
  obtain ⟨a2, c2, rfl⟩ := h2.slice
  generalize d1.length = n1 at *
  generalize d2.length = n2 at *
  clear hr hr2 h1 h2 s1 s2 he
  cases r
  all_goals
    go_enter Tryz.func6, Tryz.ntmps6
    go_wp2_with fail
    refine (HL1.out _ hw0).mono ?_
    rintro e w1 ⟨r1, rfl, hb1⟩
    have hx1 := below_from hw0 hb1
    cases r1
    · go_wp2_with fail
      refine (HL2.out _ hx1).mono ?_
      rintro e w2 ⟨r2, rfl, hb2⟩
      have hx2 := below_from hx1 hb2
      cases r2
      · go_wp2_with fail
        refine (HS12.out _ hx2).mono ?_
        rintro e w3 ⟨rfl, hb3⟩
        have hx3 := below_from hx2 hb3
        go_wp2_with fail
        refine (HR12.out _ hx3).mono ?_
        rintro e w4 ⟨rfl, hb4⟩
        have hx4 := below_from hx3 hb4
        go_wp2_with fail
        refine (HS21.out _ hx4).mono ?_
        rintro e w5 ⟨rfl, hb5⟩
        have hx5 := below_from hx4 hb5
        go_wp2_with fail
        refine (HS12.out _ hx5).mono ?_
        rintro e w6 ⟨rfl, hb6⟩
        have hx6 := below_from hx5 hb6
        go_wp2_with fail
        refine (HS11.out _ hx6).mono ?_
        rintro e w7 ⟨rfl, hb7⟩
        have hx7 := below_from hx6 hb7
        go_wp2_with fail
        refine (HA.out _ hx7).mono ?_
        rintro e w8 ⟨rfl, hb8⟩
        have hx8 := below_from hx7 hb8
        go_wp2_with fail
        go_ret
        exact ⟨rfl, hx8⟩
      · go_wp2_with fail
        refine (HA.out _ hx2).mono ?_
        rintro e w8 ⟨rfl, hb8⟩
        have hx8 := below_from hx2 hb8
        go_wp2_with fail
        go_ret
        exact ⟨rfl, hx8⟩
    · go_wp2_with fail
      refine (HA.out _ hx1).mono ?_
      rintro e w8 ⟨rfl, hb8⟩
      have hx8 := below_from hx1 hb8
      go_wp2_with fail
      go_ret
      exact ⟨rfl, hx8⟩
end Go.Proofs.YtfoiaoopbkcpoaaGreatDoor
