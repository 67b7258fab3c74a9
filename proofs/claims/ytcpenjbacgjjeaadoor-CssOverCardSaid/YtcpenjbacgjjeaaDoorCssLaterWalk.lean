/- The walks of CssLater and CssOver. -/
import Derived.Test.YtcpenjbacgjjeaaDoorCssAwake
import Derived.Test.YtcpenjbacgjjeaaDoorCssLaterPlain
namespace Go.Proofs.YtcpenjbacgjjeaaDoor
open Go.RowKit
open Go.Proofs.Qw

set_option maxRecDepth 100000 in
set_option maxHeartbeats 1000000 in
theorem cssLater_any (s t : ByteArray) (w : World) (he : Env w) :
    Calls Tryd.prog 6 #[.string s, .string t] w fun e w' => e = .returned (.bool true) ∧ Below w.heap.size w w' := by
  by_cases hbig : 5000 < s.size ∨ 5000 < t.size
  · have hd : (decide (5000 < (s.size : Int)) = true) ∨ (decide (5000 < (s.size : Int)) = false ∧ decide (5000 < (t.size : Int)) = true) := by
      by_cases h : 5000 < s.size
      · left; simp; omega
      · right; simp; omega
    rcases hd with hd | ⟨hd, hd2⟩
    all_goals
      go_enter Tryd.func6, Tryd.ntmps6
      go_wp2_with fail
      refine (awake_any w he).mono ?_
      rintro e w1 ⟨rfl, hb1⟩
      go_wp2_with fail
      go_ret
      exact ⟨rfl, hb1⟩
  have hs : s.size ≤ 5000 := by omega
  have ht : t.size ≤ 5000 := by omega
  have hd1 : decide (5000 < (s.size : Int)) = false := by simp; omega
  have hd2 : decide (5000 < (t.size : Int)) = false := by simp; omega
  clear hbig
  obtain ⟨T, hT⟩ : ∃ T : ByteArray, s ++ (⟨#[59]⟩ : ByteArray) ++ t = T := ⟨_, rfl⟩
  have HT : Hid (T.data.toList = s.data.toList ++ 59 :: t.data.toList) := Lib.hid (by rw [← hT]; simp)
  have hTs : T.size ≤ 20000 := by rw [← hT]; simp [ByteArray.size_append]; have : (⟨#[59]⟩ : ByteArray).size = 1 := rfl; omega
  obtain ⟨U, hU⟩ : ∃ U : ByteArray, (⟨#[32, 59, 120, 59, 58, 32, 59, 32]⟩ : ByteArray) ++ s ++ (⟨#[32, 59, 32, 99, 111, 108, 111, 114, 58, 32, 114, 101, 100, 59]⟩ : ByteArray) = U := ⟨_, rfl⟩
  have hUs : U.size ≤ 20000 := by rw [← hU]; simp only [ByteArray.size_append]; have : (⟨#[32, 59, 120, 59, 58, 32, 59, 32]⟩ : ByteArray).size = 8 := rfl; have : (⟨#[32, 59, 32, 99, 111, 108, 111, 114, 58, 32, 114, 101, 100, 59]⟩ : ByteArray).size = 14 := rfl; omega
  have hUp : cssParse U.data.toList = cssParse s.data.toList := by
    rw [parse_eq, parse_eq, ← parse_around s.data.toList, ← hU]
    simp
  obtain ⟨l1, l2, l3, l4⟩ := later_bits s.data.toList t.data.toList
  rw [← HT.out] at l1 l2 l3 l4
  generalize hp : cssParse s.data.toList = p at *
  generalize hq : cssParse t.data.toList = q at *
  generalize hr : cssParse T.data.toList = r at *
  obtain ⟨a, b⟩ := p
  obtain ⟨c, d⟩ := q
  obtain ⟨x, y⟩ := r
  have k1 := beq_iff_eq.2 l1
  have k2 := beq_iff_eq.2 l2
  have k3 := beq_iff_eq.2 l3
  have k4 := beq_iff_eq.2 l4
  dsimp only at k1 k2 k3 k4
  have Hp := Lib.hid hp
  have Hq := Lib.hid hq
  have Hr := Lib.hid hr
  have HU := Lib.hid hUp
  clear l1 l2 l3 l4 hp hq hr hUp
  go_enter Tryd.func6, Tryd.ntmps6
  go_wp2_with fail
  refine (parse_any s w he (by omega)).mono ?_
  rintro e w1 ⟨rfl, hb1⟩
  have HB1 := Lib.hid hb1
  clear hb1
  rw [Hp.out]
  go_wp2_with fail
  refine (parse_any t w1 (he.below HB1.out) (by omega)).mono ?_
  rintro e w2 ⟨rfl, hb2⟩
  have HB2 := Lib.hid (below_from HB1.out hb2)
  clear hb2
  rw [Hq.out]
  go_wp2_with fail
  refine (parse_any T w2 (he.below HB2.out) (by omega)).mono ?_
  rintro e w3 ⟨rfl, hb3⟩
  have HB3 := Lib.hid (below_from HB2.out hb3)
  clear hb3
  rw [Hr.out]
  go_wp2_with fail
  refine (parse_any U w3 (he.below HB3.out) (by omega)).mono ?_
  rintro e w4 ⟨rfl, hb4⟩
  have HB4 := Lib.hid (below_from HB3.out hb4)
  clear hb4
  rw [HU.out]
  go_wp2_with fail
  refine (awake_any w4 (he.below HB4.out)).mono ?_
  rintro e w5 ⟨rfl, hb5⟩
  go_wp2_with fail
  go_ret
  exact ⟨rfl, below_from HB4.out hb5⟩

set_option maxRecDepth 100000 in
set_option maxHeartbeats 1000000 in
theorem cssOver_any (s t : ByteArray) (v : Int) (w : World) (he : Env w) (hv1 : -9223372036854775808 ≤ v) (hv2 : v ≤ 9223372036854775807) :
    Calls Tryd.prog 7 #[.string s, .string t, .int .i64 v] w fun e w' => e = .returned (.bool true) ∧ Below w.heap.size w w' := by
  have hover := fun s t => over_bits s t v hv1 hv2
  have HO := Lib.hid hover
  clear hover hv1 hv2
  by_cases hbig : 5000 < s.size ∨ 5000 < t.size
  · have hd : (decide (5000 < (s.size : Int)) = true) ∨ (decide (5000 < (s.size : Int)) = false ∧ decide (5000 < (t.size : Int)) = true) := by
      by_cases h : 5000 < s.size
      · left; simp; omega
      · right; simp; omega
    rcases hd with hd | ⟨hd, hd2⟩
    all_goals
      go_enter Tryd.func7, Tryd.ntmps7
      go_wp2_with fail
      refine (awake_any w he).mono ?_
      rintro e w1 ⟨rfl, hb1⟩
      go_wp2_with fail
      go_ret
      exact ⟨rfl, hb1⟩
  have hs : s.size ≤ 5000 := by omega
  have ht : t.size ≤ 5000 := by omega
  have hd1 : decide (5000 < (s.size : Int)) = false := by simp; omega
  have hd2 : decide (5000 < (t.size : Int)) = false := by simp; omega
  clear hbig
  obtain ⟨T, hT⟩ : ∃ T : ByteArray, s ++ (⟨#[59]⟩ : ByteArray) ++ t = T := ⟨_, rfl⟩
  have HT : Hid (T.data.toList = s.data.toList ++ 59 :: t.data.toList) := Lib.hid (by rw [← hT]; simp)
  have hTs : T.size ≤ 20000 := by rw [← hT]; simp [ByteArray.size_append]; have : (⟨#[59]⟩ : ByteArray).size = 1 := rfl; omega
  obtain ⟨l1, l2⟩ := HO.out s.data.toList t.data.toList
  rw [← HT.out] at l1 l2
  generalize hp : cssParse s.data.toList = p at *
  generalize hq : cssParse t.data.toList = q at *
  generalize hr : cssParse T.data.toList = r at *
  obtain ⟨a, b⟩ := p
  obtain ⟨c, d⟩ := q
  obtain ⟨x, y⟩ := r
  have k1 := beq_iff_eq.2 l1
  have k2 := beq_iff_eq.2 l2
  dsimp only at k1 k2
  have Hp := Lib.hid hp
  have Hq := Lib.hid hq
  have Hr := Lib.hid hr
  clear l1 l2 hp hq hr HO
  go_enter Tryd.func7, Tryd.ntmps7
  go_wp2_with fail
  refine (parse_any s w he (by omega)).mono ?_
  rintro e w1 ⟨rfl, hb1⟩
  have HB1 := Lib.hid hb1
  clear hb1
  rw [Hp.out]
  go_wp2_with fail
  refine (parse_any t w1 (he.below HB1.out) (by omega)).mono ?_
  rintro e w2 ⟨rfl, hb2⟩
  have HB2 := Lib.hid (below_from HB1.out hb2)
  clear hb2
  rw [Hq.out]
  go_wp2_with fail
  refine (parse_any T w2 (he.below HB2.out) (by omega)).mono ?_
  rintro e w3 ⟨rfl, hb3⟩
  have HB3 := Lib.hid (below_from HB2.out hb3)
  clear hb3
  rw [Hr.out]
  go_wp2_with fail
  refine (over_any _ _ _ _).mono ?_
  rintro e w4 ⟨rfl, rfl⟩
  go_wp2_with fail
  refine (over_any _ _ _ _).mono ?_
  rintro e w4 ⟨rfl, rfl⟩
  go_wp2_with fail
  refine (over_any _ _ _ _).mono ?_
  rintro e w4 ⟨rfl, rfl⟩
  go_wp2_with fail
  refine (awake_any w3 (he.below HB3.out)).mono ?_
  rintro e w5 ⟨rfl, hb5⟩
  go_wp2_with fail
  go_ret
  exact ⟨rfl, below_from HB3.out hb5⟩
end Go.Proofs.YtcpenjbacgjjeaaDoor
