/- The walks of the document's answer of css.Parse: what a declaration says; and the whole. -/
import Derived.Test.YtcpenjbacgjjeaaDoorCssRefWalk
import Derived.Deep.RegionHeld3
import Derived.Deep.RegionWith
namespace Go.Proofs.YtcpenjbacgjjeaaDoor
open Go.RowKit
open Go.Proofs.Qw

theorem beq_yes {b : ByteArray} {l : List UInt8} (h : b.data.toList = l) : (b.toList == l) = true := by rw [toList_eq]; exact beq_iff_eq.2 h
theorem beq_no {b : ByteArray} {l : List UInt8} (h : ¬ b.data.toList = l) : (b.toList == l) = false := by rw [toList_eq]; exact beq_eq_false_iff_ne.2 h
theorem empty_no {b : ByteArray} (h : ¬ b.data.toList = []) : b.toList.isEmpty = false := by rw [toList_eq]; simpa using h
theorem empty_yes {b : ByteArray} (h : b.data.toList = []) : b.toList.isEmpty = true := by rw [toList_eq]; simpa using h
theorem notE {b : ByteArray} (h : (!b.toList.isEmpty) = true) : b.data.toList ≠ [] := ne_of_empty (by simpa using h)
theorem isE {b : ByteArray} (h : (!b.toList.isEmpty) = false) : b.data.toList = [] := nil_of_empty (by simpa using h)
theorem beq_dec (a b : List UInt8) : (a == b) = decide (a = b) := by rw [Bool.eq_iff_iff, beq_iff_eq, decide_eq_true_iff]
def triple (x : Int × Int × Bool) : Value := .tuple #[.int .i64 x.1, .int .i64 x.2.1, .bool x.2.2]

set_option maxRecDepth 100000 in
set_option maxHeartbeats 4000000 in
theorem refSays_any (nm vl : ByteArray) (w : World) (hs : vl.size ≤ 20000) :
    Calls Tryd.prog 18 #[.string nm, .string vl] w fun e w' => e = .returned (triple (refSays nm.data.toList vl.data.toList)) ∧ Below w.heap.size w w' := by
  by_cases h3 : nm.data.toList = textDeco
  · have t1 : (nm.toList == [102, 111, 110, 116, 45, 119, 101, 105, 103, 104, 116]) = false := beq_no (by rw [h3]; decide)
    have t2 : (nm.toList == [102, 111, 110, 116, 45, 115, 116, 121, 108, 101]) = false := beq_no (by rw [h3]; decide)
    have t3 : (nm.toList == [116, 101, 120, 116, 45, 100, 101, 99, 111, 114, 97, 116, 105, 111, 110]) = true := beq_yes h3
    have n1 : ¬ textDeco = fontWeight := by decide
    have n2 : ¬ textDeco = fontStyle := by decide
    by_cases a1 : vl.data.toList = none_
    · have b1 : (vl.toList == [110, 111, 110, 101]) = true := beq_yes a1
      have HR : Hid (refSays nm.data.toList vl.data.toList = (0, 12, true)) := Lib.hid (by simp [refSays, h3, a1, n1, n2])
      rw [HR.out, triple]
      clear h3 a1 n1 n2
      go_enter Tryd.func18, Tryd.ntmps18
      go_wp2_with fail
      go_ret3
      exact ⟨rfl, Below.refl _ _⟩
    · have b1 : (vl.toList == [110, 111, 110, 101]) = false := beq_no a1
      have HR : Hid (refSays nm.data.toList vl.data.toList = refDeco (refWords 0 (splitL 32 vl.data.toList))) := Lib.hid (by simp [refSays, h3, a1, n1, n2])
      rw [HR.out]
      clear h3 a1 n1 n2
      have hxl := splitL_len 32 vl.data.toList
      have hne := splitL_ne 32 vl.data.toList
      have h2 : vl.data.toList.length = vl.size := Array.length_toList
      rw [h2] at hxl
      generalize hxs : splitL 32 vl.data.toList = xs at *
      have HXS := Lib.hid hxs
      clear hxs h2
      go_enter Tryd.func18, Tryd.ntmps18
      go_wp2_with fail
      refine (refSplit_any vl 32 w hs).mono ?_
      rintro e w1 ⟨v, rfl, hrow, hb⟩
      rw [HXS.out] at hrow
      obtain ⟨m, hm⟩ : ∃ m, xs.length = m + 1 := ⟨xs.length - 1, by have := List.length_pos_iff.2 hne; omega⟩
      have hml : m ≤ 20000 := by omega
      have HR0 := Lib.hid hrow
      rw [hm] at hrow
      obtain ⟨g, cap, rfl⟩ := ownsRow_succ hrow
      have HM := Lib.hid hm
      have HRW := Lib.hid hrow
      have HB := Lib.hid hb
      clear hm hrow hb hxl hne HR HR0
      go_wp2_with fail
      go_loop [8, 9] (fun b i => ∃ (k : Nat) (bb : Int), k ≤ m + 1 ∧ i = .int .i64 k ∧ b = .int .i64 bb ∧ refWords 0 xs = refWords bb (xs.drop k)) (fun _ i => m + 1 - (intOf i).toNat)
      case atStart => exact ⟨0, 0, by omega, rfl, rfl, rfl⟩
      case round =>
        obtain ⟨k, bb, hk, rfl, rfl, hg⟩ := hrel
        have HG := Lib.hid hg
        clear hg
        by_cases hlt : k < m + 1
        · obtain ⟨xl, hx, hd⟩ := getOf xs k (by rw [HM.out]; exact hlt)
          obtain ⟨hcl, _⟩ := ownsRow_cell HRW.out (i := k) (u := strV xl) (by simp [hx])
          unfold strV at hcl
          obtain ⟨x, hxx⟩ : ∃ x : ByteArray, (⟨xl.toArray⟩ : ByteArray) = x := ⟨_, rfl⟩
          have HX : Hid (x.data.toList = xl) := Lib.hid (by rw [← hxx])
          rw [hxx] at hcl
          have HD := Lib.hid hd
          clear hd hx hxx
          go_wp2
          · go_round
            case rel => exact ⟨k + 1, _, by omega, by go_num, rfl, by rw [HG.out, HD.out, ← HX.out, refWords1 (eq_of_beq ‹_›)]⟩
            case measure => simp [intOf]; omega
          · go_round
            case rel => exact ⟨k + 1, _, by omega, by go_num, rfl, by rw [HG.out, HD.out, ← HX.out, refWords2 (ne_of_beq ‹(x.toList == [117, 110, 100, 101, 114, 108, 105, 110, 101]) = false›) (eq_of_beq ‹_›)]⟩
            case measure => simp [intOf]; omega
          · go_ret3
            refine ⟨?_, HB.out⟩
            rw [HG.out, HD.out, ← HX.out, refWords4 (ne_of_beq ‹(x.toList == [117, 110, 100, 101, 114, 108, 105, 110, 101]) = false›) (ne_of_beq ‹(x.toList == [108, 105, 110, 101, 45, 116, 104, 114, 111, 117, 103, 104]) = false›) (notE ‹_›)]
            rfl
          · go_round
            case rel => exact ⟨k + 1, _, by omega, by go_num, rfl, by rw [HG.out, HD.out, ← HX.out, refWords3 (ne_of_beq ‹(x.toList == [117, 110, 100, 101, 114, 108, 105, 110, 101]) = false›) (ne_of_beq ‹(x.toList == [108, 105, 110, 101, 45, 116, 104, 114, 111, 117, 103, 104]) = false›) (isE ‹_›)]⟩
            case measure => simp [intOf]; omega
        · obtain rfl : k = m + 1 := by omega
          rw [List.drop_eq_nil_of_le (by rw [HM.out]; exact Nat.le_refl _)] at HG
          go_wp2
          go_ret3
          refine ⟨?_, HB.out⟩
          rw [HG.out]
          rfl
  · have t3 : (nm.toList == [116, 101, 120, 116, 45, 100, 101, 99, 111, 114, 97, 116, 105, 111, 110]) = false := beq_no h3
    have H3 := Lib.hid h3
    clear h3
    go_enter Tryd.func18, Tryd.ntmps18
    go_wp2_with fail
    all_goals go_ret3
    all_goals refine ⟨?_, Below.refl _ _⟩
    all_goals simp only [toList_eq, beq_iff_eq, beq_eq_false_iff_ne, ne_eq] at *
    all_goals have h3 := H3.out
    all_goals simp only [textDeco] at h3
    all_goals by_cases z : vl.data.toList = [55, 48, 48]
    all_goals simp_all [refSays, triple, fontWeight, fontStyle, textDeco, bold, w700, normal, w400, italic]
    all_goals first | exact beq_dec _ _ | (rw [Bool.eq_iff_iff]; simp_all)
end Go.Proofs.YtcpenjbacgjjeaaDoor
