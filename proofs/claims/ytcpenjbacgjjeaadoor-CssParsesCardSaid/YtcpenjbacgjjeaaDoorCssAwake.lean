/- The chapter's examples: 'awake' answers true. -/
import Derived.Test.YtcpenjbacgjjeaaDoorCssParse
import Derived.Test.YtcpenjbacgjjeaaDoorCssPrint
namespace Go.Proofs.YtcpenjbacgjjeaaDoor
open Go.RowKit
open Go.Proofs.Qw

theorem ex1 : cssParse [102, 111, 110, 116, 45, 119, 101, 105, 103, 104, 116, 58, 32, 66, 111, 108, 100, 59, 32, 70, 79, 78, 84, 45, 83, 84, 89, 76, 69, 58, 105, 116, 97, 108, 105, 99] = (3, 0) := by decide +kernel
theorem ex2 : cssParse [116, 101, 120, 116, 45, 100, 101, 99, 111, 114, 97, 116, 105, 111, 110, 58, 32, 117, 110, 100, 101, 114, 108, 105, 110, 101] = (4, 8) := by decide +kernel
theorem ex3 : cssPrint 5 2 = [102, 111, 110, 116, 45, 119, 101, 105, 103, 104, 116, 58, 32, 98, 111, 108, 100, 59, 32, 102, 111, 110, 116, 45, 115, 116, 121, 108, 101, 58, 32, 110, 111, 114, 109, 97, 108, 59, 32, 116, 101, 120, 116, 45, 100, 101, 99, 111, 114, 97, 116, 105, 111, 110, 58, 32, 117, 110, 100, 101, 114, 108, 105, 110, 101] := by decide +kernel
theorem ex4 : bits .or .i64 (bits .andNot .i64 3 1) 4 = 6 := by decide +kernel

set_option maxRecDepth 100000 in
set_option maxHeartbeats 1000000 in
theorem awake_any (w : World) (he : Env w) :
    Calls Tryd.prog 8 #[] w fun e w' => e = .returned (.bool true) ∧ Below w.heap.size w w' := by
  go_enter Tryd.func8, Tryd.ntmps8
  go_wp2_with fail
  refine (parse_any _ _ he (by decide)).mono ?_
  rintro e w1 ⟨rfl, hb1⟩
  have HB1 := Lib.hid hb1
  clear hb1
  have h1 := ex1
  go_wp2_with fail
  refine (parse_any _ _ (he.below HB1.out) (by decide)).mono ?_
  rintro e w2 ⟨rfl, hb2⟩
  have HB2 := Lib.hid (below_from HB1.out hb2)
  clear hb2
  have h2 := ex2
  go_wp2_with fail
  refine (print_any _ _ _).mono ?_
  rintro e w3 ⟨rfl, hb3⟩
  have HB3 := Lib.hid (below_from HB2.out hb3)
  clear hb3
  rw [ex3, strV]
  go_wp2_with fail
  refine (over_any _ _ _ _).mono ?_
  rintro e w4 ⟨rfl, rfl⟩
  have h4 := ex4
  go_wp2_with fail
  go_ret
  exact ⟨rfl, HB3.out⟩
end Go.Proofs.YtcpenjbacgjjeaaDoor
