/- The walk of CssBack. -/
import Derived.Test.YtcpenjbacgjjeaaDoorCssAwake
import Derived.Test.YtcpenjbacgjjeaaDoorCssBackPlain
namespace Go.Proofs.YtcpenjbacgjjeaaDoor
open Go.RowKit
open Go.Proofs.Qw

set_option maxRecDepth 100000 in
set_option maxHeartbeats 1000000 in
theorem cssBack_any (x y : Int) (w : World) (he : Env w) :
    Calls Tryd.prog 5 #[.int .i64 x, .int .i64 y] w fun e w' => e = .returned (.bool true) ∧ Below w.heap.size w w' := by
  have hback := back_any x y
  go_enter Tryd.func5, Tryd.ntmps5
  go_wp2_with fail
  generalize bits .and .i64 x 15 = s at *
  generalize bits .andNot .i64 (bits .and .i64 y 15) s = c at *
  have HK := Lib.hid hback
  clear hback
  refine (print_any s c w).mono ?_
  rintro e w1 ⟨rfl, hb1⟩
  have HB1 := Lib.hid hb1
  clear hb1
  rw [strV]
  have hlen := cssPrint_len s c
  generalize hP : cssPrint s c = P at *
  have HP := Lib.hid hP
  clear hP
  go_wp2_with fail
  refine (parse_any _ _ (he.below HB1.out) (by simp [ByteArray.size]; omega)).mono ?_
  rintro e w2 ⟨rfl, hb2⟩
  have HB2 := Lib.hid (below_from HB1.out hb2)
  clear hb2
  by_cases t : (bits .and .i64 (bits .or .i64 s c) 12 != 0) = true
  · have hk := HK.out
    rw [back, HP.out, if_pos t, beq_iff_eq] at hk
    have hk1 := congrArg Prod.fst hk
    have hk2 := congrArg Prod.snd hk
    dsimp only at hk1 hk2
    rw [hk]
    clear hk hk1 hk2
    go_wp2_with fail
    refine (awake_any w2 (he.below HB2.out)).mono ?_
    rintro e w3 ⟨rfl, hb3⟩
    go_wp2_with fail
    go_ret
    exact ⟨rfl, below_from HB2.out hb3⟩
  · have hk := HK.out
    rw [back, HP.out, if_neg t, beq_iff_eq] at hk
    have t : (bits .and .i64 (bits .or .i64 s c) 12 != 0) = false := by simpa using t
    rw [hk]
    clear hk
    go_wp2_with fail
    refine (awake_any w2 (he.below HB2.out)).mono ?_
    rintro e w3 ⟨rfl, hb3⟩
    go_wp2_with fail
    go_ret
    exact ⟨rfl, below_from HB2.out hb3⟩
end Go.Proofs.YtcpenjbacgjjeaaDoor
