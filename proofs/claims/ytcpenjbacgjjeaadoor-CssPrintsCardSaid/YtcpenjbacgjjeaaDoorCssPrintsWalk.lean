/- The walks of the document's answer of css.Print, and of CssPrints. -/
import Derived.Test.YtcpenjbacgjjeaaDoorCssAwake
import Derived.Test.YtcpenjbacgjjeaaDoorCssRefPlain
namespace Go.Proofs.YtcpenjbacgjjeaaDoor
open Go.RowKit
open Go.Proofs.Qw

set_option maxHeartbeats 1000000 in
theorem refJoin_any (a b : List UInt8) (w : World) (ha : a.length ≤ 1000) (hb : b.length ≤ 1000) :
    Calls Tryd.prog 22 #[.string ⟨a.toArray⟩, .string ⟨b.toArray⟩] w fun e w' => e = .returned (.string ⟨(refJoin a b).toArray⟩) ∧ w = w' := by
  have e1 : (⟨a.toArray⟩ ++ ⟨b.toArray⟩ : ByteArray) = ⟨(a ++ b).toArray⟩ := by apply ByteArray.ext; simp
  have e2 : (⟨a.toArray⟩ ++ ⟨#[59, 32]⟩ ++ ⟨b.toArray⟩ : ByteArray) = ⟨(a ++ 59 :: 32 :: b).toArray⟩ := by apply ByteArray.ext; simp
  by_cases h1 : a = []
  · rw [show refJoin a b = a ++ b from if_pos (.inl h1)]
    have t1 : a.isEmpty = true := by simp [h1]
    clear h1 e2
    go_enter Tryd.func22, Tryd.ntmps22
    go_wp2
    go_ret
    exact ⟨rfl, rfl⟩
  · have t1 : a.isEmpty = false := by simp [h1]
    by_cases h2 : b = []
    · rw [show refJoin a b = a ++ b from if_pos (.inr h2)]
      have t2 : b.isEmpty = true := by simp [h2]
      clear h1 h2 e2
      go_enter Tryd.func22, Tryd.ntmps22
      go_wp2
      go_ret
      exact ⟨rfl, rfl⟩
    · rw [show refJoin a b = a ++ 59 :: 32 :: b from if_neg (by simp [h1, h2])]
      have t2 : b.isEmpty = false := by simp [h2]
      clear h1 h2 e1
      go_enter Tryd.func22, Tryd.ntmps22
      go_wp2
      go_ret
      exact ⟨rfl, rfl⟩

set_option maxRecDepth 100000 in
set_option maxHeartbeats 2000000 in
theorem refPrint_any (x y : Int) (w : World) :
    Calls Tryd.prog 12 #[.int .i64 x, .int .i64 y] w fun e w' => e = .returned (.string ⟨(refPrint x y).toArray⟩) ∧ w = w' := by
  go_enter Tryd.func12, Tryd.ntmps12
  go_wp2_with (go_at_call 22; refine (refJoin_any _ _ _ ?ha ?hb).mono ?_; (case ha => decide); (case hb => decide); rintro e w' ⟨rfl, rfl⟩)
  all_goals
    go_ret
    refine ⟨?_, rfl⟩
    simp only [refPrint, refS, refT, refU, *, if_true, Bool.false_eq_true, if_false]
    rfl

set_option maxRecDepth 100000 in
set_option maxHeartbeats 1000000 in
theorem cssPrints_any (x y z : Int) (w : World) (he : Env w) :
    Calls Tryd.prog 4 #[.int .i64 x, .int .i64 y, .int .i64 z] w fun e w' => e = .returned (.bool true) ∧ Below w.heap.size w w' := by
  go_enter Tryd.func4, Tryd.ntmps4
  go_wp2_with fail
  refine (print_any x y w).mono ?_
  rintro e w1 ⟨rfl, hb1⟩
  have HB1 := Lib.hid hb1
  clear hb1
  rw [strV, print_eq]
  go_wp2_with fail
  refine (refPrint_any x y w1).mono ?_
  rintro e w2 ⟨rfl, rfl⟩
  go_wp2_with fail
  refine (over_any z x y w1).mono ?_
  rintro e w3 ⟨rfl, rfl⟩
  go_wp2_with fail
  refine (awake_any w1 (he.below HB1.out)).mono ?_
  rintro e w5 ⟨rfl, hb5⟩
  go_wp2_with fail
  go_ret
  exact ⟨rfl, below_from HB1.out hb5⟩
end Go.Proofs.YtcpenjbacgjjeaaDoor
