/- The walk of the law's 'is': is an answer the document's? It is written over then. -/
import Derived.Test.YtfoiaoopbkcpoaaGreatDoorOwn
import Derived.Test.YtfoiaoopbkcpoaaGreatDoorBase
import Derived.Test.YtfoiaoopbkcpoaaGreatDoorSame
import Derived.Test.YtfoiaoopbkcpoaaGreatDoorRefLong
namespace Go.Proofs.YtfoiaoopbkcpoaaGreatDoor
open Go.RowKit
open Go.Proofs.Qw
set_option maxRecDepth 100000 in
set_option maxHeartbeats 2000000 in
theorem lawIs_any (v m : Value) (x y : Doc) (e f : Int) (n : Nat) (w : World) (S : Nat → Prop) (hn : n ≤ w.heap.size) (hx : DocR true w (fun b => n ≤ b) v x) (hy : LinsR w S m y) :
    Calls Tryz.prog 31 #[v, .int .i64 e, m, .int .i64 f] w fun r w' => r = .returned (.bool (decide (e = f) && decide (x = y))) ∧ Below n w w' := by
  have HS := Lib.hid (refSame_any v m x y w _ S hx.read hy)
  have HP : Hid (∀ W, Below w.heap.size w W → Calls Tryz.prog 67 #[v] W fun e w' => (∃ u, e = .returned u) ∧ Below n W w') := Lib.hid fun W hW => spoil_any v x n W (hx.below hW)
  have hw0 : Below w.heap.size w w := Below.refl _ _
  obtain ⟨a1, c1, rfl⟩ := hx.slice
  obtain ⟨a2, c2, rfl⟩ := hy.slice
  generalize decide (x = y) = s at *
  generalize x.length = n1 at *
  generalize y.length = n2 at *
  clear hx hy
  by_cases hef : e = f
  · subst hef
    have hq : (e == e) = true := beq_self_eq_true _
    have HD : Hid (decide (e = e) = true) := Lib.hid (decide_eq_true rfl)
    cases s
    all_goals
      go_enter Tryz.func31, Tryz.ntmps31
      go_wp2_with (first | (go_at_call 33; refine HS.out.mono ?_; rintro e1 w1 ⟨rfl, hb1⟩) | (go_at_call 67; refine (HP.out _ hb1).mono ?_; rintro e1 w2 ⟨⟨u, rfl⟩, hb2⟩))
      go_ret
      rw [HD.out]
      exact ⟨rfl, (hb1.mono hn).trans hb2⟩
  · have hq : (e == f) = false := beq_eq_false_iff_ne.2 hef
    have HD : Hid (decide (e = f) = false) := Lib.hid (decide_eq_false hef)
    clear hef
    go_enter Tryz.func31, Tryz.ntmps31
    go_wp2_with (go_at_call 67; refine (HP.out _ hw0).mono ?_; rintro e1 w2 ⟨⟨u, rfl⟩, hb2⟩)
    go_ret
    rw [HD.out]
    exact ⟨rfl, hb2⟩
/-- 'long': what it lets pass is small. -/
theorem long_any (v : Value) (d : Doc) (w : World) (S : Nat → Prop) (h : LinsR w S v d) (hs : Sane d) :
    Calls Tryz.prog 10 #[v] w (LongSaid d w) := by
  have HC := Lib.hid (refLong_any v d w S h hs)
  clear h hs
  go_enter Tryz.func10, Tryz.ntmps10
  go_wp2_with (go_at_call 59; refine HC.out.mono ?_; rintro e w1 ⟨r, rfl, hr, hb⟩)
  go_ret
  exact ⟨r, rfl, hr, hb⟩

end Go.Proofs.YtfoiaoopbkcpoaaGreatDoor
