/- The walk of the document's answer of css.Parse; and of CssParses. -/
import Derived.Test.YtcpenjbacgjjeaaDoorCssSaysWalk
namespace Go.Proofs.YtcpenjbacgjjeaaDoor
open Go.RowKit
open Go.Proofs.Qw

theorem trim_size (l : List UInt8) (h : l.length ≤ 20000) : (⟨(low (Lib.trimB l 32)).toArray⟩ : ByteArray).size ≤ 20000 := by
  have h1 := trimB_le l 32
  have h3 : (⟨(low (Lib.trimB l 32)).toArray⟩ : ByteArray).size = (low (Lib.trimB l 32)).length := by simp [ByteArray.size]
  rw [h3, low_length]
  omega
theorem refSays_tup (nm vl : ByteArray) (w : World) (hs : vl.size ≤ 20000) :
    Calls Tryd.prog 18 #[.string nm, .string vl] w fun e w' => e = .returned (.tuple #[.int .i64 (refSays nm.data.toList vl.data.toList).1, .int .i64 (refSays nm.data.toList vl.data.toList).2.1, .bool (refSays nm.data.toList vl.data.toList).2.2]) ∧ Below w.heap.size w w' := refSays_any nm vl w hs
set_option maxRecDepth 100000 in
set_option maxHeartbeats 4000000 in
theorem refParse_any (s : ByteArray) (w : World) (hs : s.size ≤ 10000) :
    Calls Tryd.prog 10 #[.string s] w fun e w' => e = .returned (.tuple #[.int .i64 (refParse s.data.toList).1, .int .i64 (refParse s.data.toList).2]) ∧ Below w.heap.size w w' := by
  have hxl := splitL_len 59 s.data.toList
  have hne := splitL_ne 59 s.data.toList
  have h2 : s.data.toList.length = s.size := Array.length_toList
  rw [h2] at hxl
  have HLE : Hid (∀ (k : Nat) x, (splitL 59 s.data.toList)[k]? = some x → x.length ≤ 10000) := Lib.hid fun k x hx => by
    have := splitL_le 59 s.data.toList x (List.mem_of_getElem? hx)
    omega
  have HF : Hid (refParse s.data.toList = (splitL 59 s.data.toList).foldl refStep (0, 0)) := Lib.hid rfl
  generalize hxs : splitL 59 s.data.toList = xs at *
  have HXS := Lib.hid hxs
  clear hxs h2
  go_enter Tryd.func10, Tryd.ntmps10
  go_wp2_with fail
  refine (refSplit_any s 59 w (by omega)).mono ?_
  rintro e w1 ⟨v, rfl, hrow, hb⟩
  rw [HXS.out] at hrow
  obtain ⟨m, hm⟩ : ∃ m, xs.length = m + 1 := ⟨xs.length - 1, by have := List.length_pos_iff.2 hne; omega⟩
  have hml : m ≤ 20000 := by omega
  rw [hm] at hrow
  obtain ⟨g, cap, rfl⟩ := ownsRow_succ hrow
  have hg1 : g < w1.heap.size := (hrow.lt g rfl).2
  have HM := Lib.hid hm
  have HRW := Lib.hid hrow
  have HB := Lib.hid hb
  clear hm hrow hb hxl hne
  go_wp2_with fail
  go_loopw [5, 6, 7, 8, 9, 10, 11] (fun a b i _ _ _ _ wr => ∃ (k : Nat) (st : Int × Int), k ≤ m + 1 ∧ i = .int .i64 k ∧ a = .int .i64 st.1 ∧ b = .int .i64 st.2 ∧ xs.foldl refStep (0, 0) = (xs.drop k).foldl refStep st ∧ Below w1.heap.size w1 wr) (fun _ _ i _ _ _ _ _ => m + 1 - (intOf i).toNat)
  case atStart => exact ⟨0, (0, 0), by omega, rfl, rfl, rfl, rfl, Below.refl _ _⟩
  case round =>
    obtain ⟨k, st, hk, rfl, rfl, rfl, hg, hb⟩ := hrel
    have HG := Lib.hid hg
    clear hg
    by_cases hlt : k < m + 1
    · obtain ⟨xl, hx, hd⟩ := getOf xs k (by rw [HM.out]; exact hlt)
      obtain ⟨hcl, _⟩ := ownsRow_cell HRW.out (i := k) (u := strV xl) (by simp [hx])
      unfold strV at hcl
      have hxs := HLE.out k xl hx
      obtain ⟨x, hxx⟩ : ∃ x : ByteArray, (⟨xl.toArray⟩ : ByteArray) = x := ⟨_, rfl⟩
      have HX : Hid (x.data.toList = xl) := Lib.hid (by rw [← hxx])
      have hsz : x.size ≤ 10000 := by rw [← hxx]; simpa [ByteArray.size] using hxs
      rw [hxx] at hcl
      have HD := Lib.hid hd
      have hcr : wr.cell? ⟨g, k, none⟩ = some (.string x) := (hb.cell (p := ⟨g, k, none⟩) hg1).trans hcl
      clear hd hx hxx hcl hxs
      go_wp2_with fail
      go_loop [8] (fun a => ∃ j : Nat, j ≤ x.size ∧ a = .int .i64 j ∧ ∀ i, i < j → x.data.toList[i]? ≠ some 58) (fun a => x.size - (intOf a).toNat)
      case atStart => exact ⟨0, by omega, rfl, fun i hi => by omega⟩
      case round =>
        obtain ⟨j, hj, rfl, hno⟩ := hrel
        have HN := Lib.hid hno
        clear hno
        by_cases hjl : j < x.size
        · by_cases hc : x[j] = 58
          · have ht : ((x[j].toNat : Int) != 58) = false := by rw [hc]; rfl
            have HC : Hid (cutL xl = (xl.take j, xl.drop (j + 1), true)) := Lib.hid ((cutL_at xl j (by rw [← HX.out]; exact HN.out)).1 (by rw [← HX.out, getB x j hjl, hc]))
            clear hc
            go_wp2_with fail
            have hi1 : (0 : Int) ≤ (k : Int) := by omega
            have hi2 : (k : Int) < (m : Int) + 1 := by omega
            have hi3 : (0 : Int) ≤ (j : Int) := by omega
            have hi4 : (j : Int) ≤ (x.size : Int) := by omega
            have hi5 : IntKind.i64.wrap ((j : Int) + 1) = (j : Int) + 1 := IntWalk.i64_in _ (by omega)
            have hi6 : (0 : Int) ≤ (j : Int) + 1 := by omega
            have hi7 : (j : Int) + 1 ≤ (x.size : Int) := by omega
            have hi8 : ((j : Int) + 1).toNat = j + 1 := by omega
            have hgr : g < wr.heap.size := Nat.lt_of_lt_of_le hg1 hb.size
            obtain ⟨y1, hy1⟩ : ∃ y, x.extract 0 j = y := ⟨_, rfl⟩
            obtain ⟨y2, hy2⟩ : ∃ y, x.extract (j + 1) x.size = y := ⟨_, rfl⟩
            have HY1 : Hid (y1.data.toList = xl.take j) := Lib.hid (by rw [← hy1, extract_from, HX.out])
            have HY2 : Hid (y2.data.toList = xl.drop (j + 1)) := Lib.hid (by rw [← hy2, extract_to, HX.out])
            have z1 : y1.size ≤ 20000 := by rw [← hy1, ByteArray.size_extract]; omega
            have z2 : y2.size ≤ 20000 := by rw [← hy2, ByteArray.size_extract]; omega
            have z3 := trim_size y2.data.toList (by rw [Array.length_toList]; exact z2)
            obtain ⟨a1, ha1⟩ : ∃ a, refSays (low (Lib.trimB y1.data.toList 32)) (low (Lib.trimB y2.data.toList 32)) = a := ⟨_, rfl⟩
            have HA : Hid (refStep st xl = if a1.2.2 = true then cssSay st a1.1 a1.2.1 else st) := Lib.hid (by rw [refStep, HC.out, if_pos rfl, ← HY1.out, ← HY2.out, ha1])
            go_region_held3 (fun w' => w'.cell? ⟨g, k, none⟩ = some (.string x)) (first | assumption)
              (first
                | (go_at_call_of 19 y1; refine (refTrim_any y1 _ z1).mono ?_; rintro e w9 ⟨rfl, hb9⟩; have hg9 : g < w9.heap.size := Nat.lt_of_lt_of_le (by first | exact hgr | assumption) hb9.size; have hbb9 : Below w1.heap.size w1 w9 := below_from (by first | assumption | exact hb.drew) hb9; have hq9 := (hb9.cell (p := ⟨g, k, none⟩) (by first | exact hgr | assumption)).trans (by first | exact hcr | assumption))
                | (go_at_call_of 19 y2; refine (refTrim_any y2 _ z2).mono ?_; rintro e w8 ⟨rfl, hb9⟩; have hg9 : g < w8.heap.size := Nat.lt_of_lt_of_le (by first | exact hgr | assumption) hb9.size; have hbb9 : Below w1.heap.size w1 w8 := below_from (by first | assumption | exact hb.drew) hb9; have hq9 := (hb9.cell (p := ⟨g, k, none⟩) (by first | exact hgr | assumption)).trans (by first | exact hcr | assumption))
                | (go_at_call 18; refine (refSays_tup ⟨(low (Lib.trimB y1.data.toList 32)).toArray⟩ ⟨(low (Lib.trimB y2.data.toList 32)).toArray⟩ _ z3).mono ?_; rintro e w7 ⟨rfl, hb8⟩; have hbb8 : Below w1.heap.size w1 w7 := below_from (by first | assumption | exact hb.drew) hb8; have hq8 := (hb8.cell (p := ⟨g, k, none⟩) (by first | exact hgr | assumption)).trans (by first | exact hcr | assumption)))
            obtain ⟨a, b, ok⟩ := a1
            have HA1 := Lib.hid ha1
            have HBB := Lib.hid hbb8
            clear hi1 hi2 hi3 hi4 hi5 hi6 hi7 hi8 ha1 hy1 hy2 z1 z2 z3 hq9 hq8 hbb8
            cases ok
            · go_wp2_with fail
              go_roundw
              case rel => exact ⟨k + 1, st, by omega, by go_num, rfl, rfl, by rw [HG.out, HD.out, List.foldl_cons, HA.out]; rfl, HBB.out⟩
              case measure => simp [intOf]; omega
            · go_wp2_with fail
              go_roundw
              case rel => exact ⟨k + 1, cssSay st a b, by omega, by go_num, rfl, rfl, by rw [HG.out, HD.out, List.foldl_cons, HA.out]; rfl, HBB.out⟩
              case measure => simp [intOf]; omega
          · have ht : ((x[j].toNat : Int) != 58) = true := by
              rw [bne_iff_ne]; intro e; exact hc (UInt8.toNat_inj.1 (by simpa using Int.ofNat.inj e))
            have HC : Hid (∀ i, i < j + 1 → x.data.toList[i]? ≠ some 58) := Lib.hid fun i hi => by
              by_cases h : i < j
              · exact HN.out i h
              · obtain rfl : i = j := by omega
                rw [getB x i hjl]
                intro e
                exact hc (Option.some.inj e)
            clear hc
            go_wp2_with fail
            go_round
            case rel => exact ⟨j + 1, by omega, by go_num, HC.out⟩
            case measure => simp [intOf]; omega
        · obtain rfl : j = x.size := by omega
          have HC : Hid (cutL xl = (xl, [], false)) := Lib.hid ((cutL_at xl x.size (by rw [← HX.out]; exact HN.out)).2 (by rw [← HX.out, Array.length_toList]; rfl))
          go_wp2_with fail
          go_roundw
          case rel => exact ⟨k + 1, st, by omega, by go_num, rfl, rfl, by rw [HG.out, HD.out, List.foldl_cons]; congr 1; rw [refStep, HC.out]; rfl, hb⟩
          case measure => simp [intOf]; omega
    · obtain rfl : k = m + 1 := by omega
      rw [List.drop_eq_nil_of_le (by rw [HM.out]; exact Nat.le_refl _)] at HG
      go_wp2
      go_ret2
      refine ⟨?_, HB.out.trans (hb.mono HB.out.size)⟩
      rw [HF.out, HG.out]
      rfl

set_option maxRecDepth 100000 in
set_option maxHeartbeats 1000000 in
theorem cssParses_any (s : ByteArray) (w : World) (he : Env w) :
    Calls Tryd.prog 3 #[.string s] w fun e w' => e = .returned (.bool true) ∧ Below w.heap.size w w' := by
  by_cases hbig : 10000 < s.size
  · go_enter Tryd.func3, Tryd.ntmps3
    go_wp2_with fail
    refine (awake_any w he).mono ?_
    rintro e w1 ⟨rfl, hb1⟩
    go_wp2_with fail
    go_ret
    exact ⟨rfl, hb1⟩
  · have HP := Lib.hid (parse_ref s.data.toList)
    go_enter Tryd.func3, Tryd.ntmps3
    go_wp2_with fail
    refine (parse_any s w he (by omega)).mono ?_
    rintro e w1 ⟨rfl, hb1⟩
    have HB1 := Lib.hid hb1
    clear hb1
    rw [HP.out]
    go_wp2_with fail
    refine (refParse_any s w1 (by omega)).mono ?_
    rintro e w2 ⟨rfl, hb2⟩
    have HB2 := Lib.hid (below_from HB1.out hb2)
    clear hb2
    go_wp2_with fail
    refine (awake_any w2 (he.below HB2.out)).mono ?_
    rintro e w5 ⟨rfl, hb5⟩
    go_wp2_with fail
    go_ret
    exact ⟨rfl, below_from HB2.out hb5⟩
end Go.Proofs.YtcpenjbacgjjeaaDoor
