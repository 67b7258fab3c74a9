/- The walks of package chars . -/
import Derived.Test.YtfoiaoopbkcpoaaGreatDoorBase
import Derived.Test.YtfoiaoopbkcpoaaGreatDoorShelf
namespace Go.Proofs.YtfoiaoopbkcpoaaGreatDoor
open Go.RowKit
open Go.Proofs.Qw

set_option maxHeartbeats 1000000 in
theorem class_any (c : Int) (w : World) :
    Calls Tryz.prog 145 #[.int .i32 c] w fun e w' => e = .returned (.int .i64 (classF c)) ∧ w' = w := by
  go_enter Tryz.func145, Tryz.ntmps145
  go_wp2_with (go_at_call 154; refine (Tryz.utf8_ValidRune c w).mono ?_; rintro e w' ⟨rfl, rfl⟩)
  all_goals
    go_ret
    refine ⟨?_, rfl⟩
    refine congrArg Ending.returned (int_eq ?_)
    simp only [Bool.not_eq_true', Bool.not_eq_false', beq_iff_eq, beq_eq_false_iff_ne] at *
    unfold classF
    (repeat' split) <;> first | rfl | omega | simp_all

set_option maxHeartbeats 400000 in
theorem charMay_any (c : Int) (w : World) :
    Calls Tryz.prog 129 #[.int .i32 c] w fun e w' => e = .returned (.bool (mayR c)) ∧ w' = w := by
  go_enter Tryz.func129, Tryz.ntmps129
  go_wp2_with (go_at_call 145; refine (class_any c w).mono ?_; rintro e w' ⟨rfl, rfl⟩)
  go_ret
  exact ⟨rfl, rfl⟩

end Go.Proofs.YtfoiaoopbkcpoaaGreatDoor
