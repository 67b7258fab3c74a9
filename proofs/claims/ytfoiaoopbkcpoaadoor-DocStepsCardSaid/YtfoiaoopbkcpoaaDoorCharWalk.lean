/- The walks of package chars . -/
import Derived.Test.YtfoiaoopbkcpoaaDoorBase
import Derived.Test.YtfoiaoopbkcpoaaDoorShelf
namespace Go.Proofs.YtfoiaoopbkcpoaaDoor
open Go.RowKit
open Go.Proofs.Qw

set_option maxHeartbeats 1000000 in
theorem class_any (c : Int) (w : World) :
    Calls Tryd.prog 63 #[.int .i32 c] w fun e w' => e = .returned (.int .i64 (classF c)) ∧ w' = w := by
  go_enter Tryd.func63, Tryd.ntmps63
  go_wp2_with (go_at_call 65; refine (Tryd.utf8_ValidRune c w).mono ?_; rintro e w' ⟨rfl, rfl⟩)
  all_goals
    go_ret
    refine ⟨?_, rfl⟩
    refine congrArg Ending.returned (int_eq ?_)
    simp only [Bool.not_eq_true', Bool.not_eq_false', beq_iff_eq, beq_eq_false_iff_ne] at *
    unfold classF
    (repeat' split) <;> first | rfl | omega | simp_all

set_option maxHeartbeats 400000 in
theorem charMay_any (c : Int) (w : World) :
    Calls Tryd.prog 60 #[.int .i32 c] w fun e w' => e = .returned (.bool (mayR c)) ∧ w' = w := by
  go_enter Tryd.func60, Tryd.ntmps60
  go_wp2_with (go_at_call 63; refine (class_any c w).mono ?_; rintro e w' ⟨rfl, rfl⟩)
  go_ret
  exact ⟨rfl, rfl⟩

end Go.Proofs.YtfoiaoopbkcpoaaDoor
