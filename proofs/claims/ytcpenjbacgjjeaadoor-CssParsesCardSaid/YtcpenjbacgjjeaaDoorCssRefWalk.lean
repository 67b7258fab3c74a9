/- The walks of the document's answer of css.Parse: its parts. -/
import Derived.Test.YtcpenjbacgjjeaaDoorCssAwake
import Derived.Test.YtcpenjbacgjjeaaDoorCssRefPlain
import Derived.IntWalk
namespace Go.Proofs.YtcpenjbacgjjeaaDoor
open Go.RowKit
open Go.Proofs.Qw

theorem ownsRow_set {w : World} {base : Nat} {e : TypeId} {v : Value} {n g c : Nat} {xs : List Value} (h : w.ownsRow base e 1 v n xs) (hv : v = .slice (some ⟨g, 0, none⟩) n c) {i : Nat} (u : Value) : (w.setCell ⟨g, i, none⟩ u).ownsRow base e 1 v n (xs.set i u) := by
  obtain ⟨h1, h2⟩ := h
  refine ⟨by simpa using h1, ?_⟩
  rcases h2 with ⟨rfl, _⟩ | ⟨g', cap, cur, rfl, hg, hh, hn, hm, hs, hx⟩
  · cases hv
  · cases hv
    refine .inr ⟨g, c, cur.setIfInBounds i u, rfl, hg, ?_, hn, hm, by simpa using hs, ?_⟩
    · show (w.heap.modify g _)[g]? = _
      rw [Array.getElem?_modify, if_pos rfl, hh]
      rfl
    · rw [← hx, Array.toList_setIfInBounds, List.take_set]
theorem ownsRow_lit (w : World) (e : TypeId) (u : Value) : (w.alloc (.cells #[u] e)).ownsRow w.heap.size e 1 (.slice (some ⟨w.heap.size, 0, none⟩) 1 1) 1 [u] :=
  ⟨rfl, .inr ⟨w.heap.size, 1, #[u], rfl, Nat.le_refl _, World.alloc_heap_new _ _, Nat.le_refl _, by decide, rfl, rfl⟩⟩
theorem ownsRow_cell {w : World} {base : Nat} {e : TypeId} {n g c : Nat} {xs : List Value} (h : w.ownsRow base e 1 (.slice (some ⟨g, 0, none⟩) n c) n xs) {i : Nat} {u : Value} (hi : xs[i]? = some u) : w.cell? ⟨g, i, none⟩ = some u ∧ w.frozen? ⟨g, i, none⟩ = false := by
  have := h.cells (g := g) rfl i u hi
  rw [show (⟨g, 0, none⟩ : Addr).add i = ⟨g, i, none⟩ by unfold Addr.add; split <;> simp_all] at this
  refine ⟨this, ?_⟩
  obtain ⟨_, ⟨h, _⟩ | ⟨g', cap, cur, hv, _, hh, _⟩⟩ := h
  · cases h
  · cases hv
    rw [World.frozen?, hh]
    simp
theorem extract_one (s : ByteArray) (k : Nat) (h : k < s.size) : (s.extract k (k + 1)).data = #[s[k]] := by
  have h' : k < s.data.size := h
  apply Array.ext'
  rw [ByteArray.data_extract, Array.toList_extract]
  simp only [List.extract_eq_take_drop, Nat.add_sub_cancel_left]
  rw [List.drop_eq_getElem_cons (by simpa using h')]
  simp
  rfl
theorem splitL_same (c : UInt8) (s : List UInt8) : splitL c (s ++ [c]) = splitL c s ++ [[]] := by
  have := splitL_app c [] s
  simpa [splitL] using this

set_option maxRecDepth 100000 in
set_option maxHeartbeats 1000000 in
theorem refSplit_any (s : ByteArray) (c : UInt8) (w : World) (hs : s.size ≤ 20000) :
    Calls Tryd.prog 17 #[.string s, .int .u8 (c.toNat : Int)] w fun e w' => ∃ v, e = .returned v ∧ w'.ownsRow w.heap.size 9 1 v (splitL c s.data.toList).length ((splitL c s.data.toList).map strV) ∧ Below w.heap.size w w' := by
  obtain ⟨i0, hi, hz0, hz1, hz2⟩ := info_parts Tryd.infoStr
  go_enter Tryd.func17, Tryd.ntmps17
  go_wp2_with fail
  have h0 := ownsRow_lit w 9 (.string ⟨#[]⟩)
  have hb0 : Below w.heap.size w (w.alloc (.cells #[.string ⟨#[]⟩] 9)) := (Below.refl _ _).alloc (Nat.le_refl _) _
  have H0 := Lib.hid h0
  have HB0 := Lib.hid hb0
  clear h0 hb0
  go_loopw [5, 6] (fun o i wr => ∃ (k : Nat) (ls : List (List UInt8)) (x : List UInt8) (g cap : Nat), k ≤ s.size ∧ i = .int .i64 k ∧ o = .slice (some ⟨g, 0, none⟩) (ls.length + 1) cap ∧ splitL c (s.data.toList.take k) = ls ++ [x] ∧ ls.length ≤ k ∧
      wr.ownsRow w.heap.size 9 1 o (ls.length + 1) ((ls ++ [x]).map strV) ∧ Below w.heap.size w wr) (fun _ i _ => s.size - (intOf i).toNat)
  case atStart => exact ⟨0, [], [], w.heap.size, 1, by omega, rfl, rfl, rfl, by simp, H0.out, HB0.out⟩
  case round =>
    obtain ⟨k, ls, x, g, cap, hk, rfl, rfl, hsp, hll, hrow, hb⟩ := hrel
    have HSP := Lib.hid hsp
    clear hsp
    by_cases hlt : k < s.size
    · have hbt : s.data.toList[k]? = some s[k] := by rw [Array.getElem?_toList, Array.getElem?_eq_getElem hlt]; rfl
      have htk := take_snoc hbt
      by_cases hc : s[k] = c
      · have ht : ((s[k].toNat : Int) == (c.toNat : Int)) = true := by rw [hc]; simp
        have HN : Hid (splitL c (s.data.toList.take (k + 1)) = (ls ++ [x]) ++ [[]]) := Lib.hid (by rw [htk, hc, splitL_same, HSP.out])
        have hB : w.heap.size ≤ wr.heap.size := hb.size
        clear hbt htk hc
        go_wp2_with (at_builtin; refine wpList_append_own _ rfl _ _ 38 rfl w.heap.size 9 i0 (.string ⟨#[]⟩) 1 16 Tryd.underlying38 hi hz0 hz1 hz2 rfl (by decide) _ _ _ rfl (hrow.alloc _) ⟨wr.heap.size, 0, none⟩ 1 1 [strV []] rfl rfl (cell_one_new _ _ _) (by simp [Value.oneCell', strV]) (by unfold maxLen; omega) (by omega) (by simp; omega) ?_; intro v' w1 hown' hgrow _; have HB1 := Lib.hid (hb.trans (below_append hrow hB hgrow)); obtain ⟨g', cap', rfl⟩ := ownsRow_succ hown'; have HO := Lib.hid hown'; clear hown' hgrow)
        go_roundw
        case rel =>
          refine ⟨k + 1, ls ++ [x], [], g', cap', by omega, by go_num, by simp, HN.out, by simp; omega, ?_, HB1.out⟩
          have := HO.out
          rw [List.map_append, List.length_append]
          exact this
        case measure => simp [intOf]; omega
      · have ht : ((s[k].toNat : Int) == (c.toNat : Int)) = false := by
          rw [beq_eq_false_iff_ne]
          intro e
          exact hc (UInt8.toNat_inj.1 (by omega))
        obtain ⟨ls', x', h1, h2⟩ := splitL_snoc c s[k] hc (s.data.toList.take k)
        rw [HSP.out] at h1
        obtain ⟨e1, e2⟩ := List.append_inj' h1 rfl
        cases e2
        subst e1
        have HN : Hid (splitL c (s.data.toList.take (k + 1)) = ls ++ [x ++ [s[k]]]) := Lib.hid (by rw [htk]; exact h2)
        obtain ⟨hcl, hfl⟩ := ownsRow_cell hrow (i := ls.length) (u := strV x) (by simp)
        unfold strV at hcl
        have hE : (⟨x.toArray⟩ ++ s.extract k (k + 1) : ByteArray) = ⟨(x ++ [s[k]]).toArray⟩ := by
          apply ByteArray.ext
          rw [ByteArray.data_append, extract_one s k hlt]
          simp
        have hxl : x.length ≤ 20000 := by
          have := splitL_le c (s.data.toList.take k) x (by rw [HSP.out]; simp)
          have h3 : (s.data.toList.take k).length ≤ k := List.length_take_le _ _
          omega
        have hcat : ¬ 9223372036854775807 < x.length + (min (k + 1) s.size - k) := by omega
        have hw1 : IntKind.i64.wrap (ls.length : Int) = ls.length := IntWalk.i64_in _ (by omega)
        have hw2 : IntKind.i64.wrap ((k : Int) + 1) = k + 1 := IntWalk.i64_in _ (by omega)
        clear hbt htk hc h1 h2
        go_wp2
        go_region
        go_wp2
        go_roundw
        case rel =>
          refine ⟨k + 1, ls, x ++ [s[k]], g, cap, by omega, by go_num, rfl, HN.out, by omega, ?_, (hb.setCell (hrow.lt g rfl).1 _).drew⟩
          have := ownsRow_set hrow rfl (i := ls.length) (strV (x ++ [s[k]]))
          rw [show (List.map strV (ls ++ [x])).set ls.length (strV (x ++ [s[k]])) = List.map strV (ls ++ [x ++ [s[k]]]) by simp] at this
          exact this
        case measure => simp [intOf]; omega
    · obtain rfl : k = s.size := by omega
      have hT : s.data.toList.take s.size = s.data.toList := List.take_of_length_le (by rw [Array.length_toList]; exact Nat.le_refl _)
      have HR : Hid (wr.ownsRow w.heap.size 9 1 (.slice (some ⟨g, 0, none⟩) (ls.length + 1) cap) (splitL c s.data.toList).length ((splitL c s.data.toList).map strV)) := Lib.hid (by
        rw [← hT, HSP.out, List.length_append]; exact hrow)
      have HB := Lib.hid hb
      clear hrow hb hT
      go_wp2
      go_ret
      exact ⟨_, rfl, HR.out, HB.out⟩

theorem extract_to (s : ByteArray) (k : Nat) : (s.extract k s.size).data.toList = s.data.toList.drop k := by
  rw [ByteArray.data_extract, Array.toList_extract]
  simp only [List.extract_eq_take_drop]
  exact List.take_of_length_le (by rw [List.length_drop, Array.length_toList]; exact Nat.le_refl _)
theorem extract_from (s : ByteArray) (k : Nat) : (s.extract 0 k).data.toList = s.data.toList.take k := by
  rw [ByteArray.data_extract, Array.toList_extract]
  simp only [List.extract_eq_take_drop, Nat.sub_zero, List.drop_zero]
theorem getB (s : ByteArray) (k : Nat) (h : k < s.size) : s.data.toList[k]? = some s[k] := by rw [Array.getElem?_toList, Array.getElem?_eq_getElem h]; rfl
theorem trim_head {s : ByteArray} (h : 0 < s.size) (hb : s[0] = 32) : Lib.trimB (s.extract 1 s.size).data.toList 32 = Lib.trimB s.data.toList 32 := by
  have h0 := getB s 0 h
  rw [extract_to]
  match hl : s.data.toList with
  | [] => rw [hl] at h0; cases h0
  | b :: l =>
    rw [hl] at h0
    cases h0
    rw [hb, trimB_cons]
    rfl
theorem trim_last {s : ByteArray} (h : 0 < s.size) (hb : s[s.size - 1] = 32) : Lib.trimB (s.extract 0 (s.size - 1)).data.toList 32 = Lib.trimB s.data.toList 32 := by
  have h0 := getB s (s.size - 1) (by omega)
  have e : s.data.toList = s.data.toList.take (s.size - 1) ++ [32] := by
    rw [← hb, ← take_snoc h0, show s.size - 1 + 1 = s.size by omega, List.take_of_length_le (by rw [Array.length_toList]; exact Nat.le_refl _)]
  rw [extract_from]
  conv => rhs; rw [e]
  rw [trimB_snoc]
theorem trim_done {s : ByteArray} (h1 : ∀ h : 0 < s.size, s[0] ≠ 32) (h2 : ∀ h : 0 < s.size, s[s.size - 1] ≠ 32) : Lib.trimB s.data.toList 32 = s.data.toList := by
  rcases Nat.eq_zero_or_pos s.size with h | h
  · have : s.data.toList = [] := List.length_eq_zero_iff.1 (by rw [Array.length_toList]; exact h)
    rw [this]; rfl
  · have a1 := getB s 0 h
    have a2 := getB s (s.size - 1) (by omega)
    have n1 := h1 h
    have n2 := h2 h
    have hlen : s.data.toList.length = s.size := Array.length_toList
    generalize s[0] = x at *
    generalize s[s.size - 1]'(by omega) = y at *
    unfold Lib.trimB Lib.trimRightB Lib.trimLeftB
    have e2 : s.data.toList.reverse.dropWhile (· == 32) = s.data.toList.reverse := by
      match hr : s.data.toList.reverse with
      | [] => rfl
      | z :: r =>
        have : s.data.toList.reverse[0]? = some y := by
          rw [List.getElem?_reverse (by omega), hlen, Nat.sub_zero]
          exact a2
        rw [hr] at this
        cases this
        rw [List.dropWhile_cons_of_neg (by simpa using n2)]
    rw [e2, List.reverse_reverse]
    match hl : s.data.toList with
    | [] => rfl
    | z :: r =>
      rw [hl] at a1
      cases a1
      rw [List.dropWhile_cons_of_neg (by simpa using n1)]
def strSize : Value → Nat
  | .string t => t.size
  | _ => 0

theorem Tryd.infoByte : (Tryd.prog.info? 5).map (fun i => (i.zero, i.size, i.bytes)) = some (some (.int .u8 0), 1, 1) := by kernel_rfl
/-- 'string(b)' of a row of one's own. -/
theorem string_row {w : World} {n : Nat} {v : Value} {l : List UInt8} (h : w.ownsRow n 5 1 v l.length (bv l)) : (convert 49 9 v).run Tryd.prog w = .ok (.string ⟨l.toArray⟩) w := by
  obtain ⟨h1, ⟨rfl, h2⟩ | ⟨g, cap, cur, rfl, _⟩⟩ := id h
  · have : l = [] := List.length_eq_zero_iff.1 h2
    subst this
    exact run_convert_bytes_nil w 49 5 Tryd.underlying49 Tryd.underlying5 0 0 9 Tryd.underlying9
  · refine run_convert_bytes_back w 49 9 5 ⟨g, 0, none⟩ cap l Tryd.underlying49 Tryd.underlying5 Tryd.underlying9 (fun j hj => ?_)
    exact h.cells (g := g) rfl j _ (bv_get (List.getElem?_eq_getElem hj))

set_option maxRecDepth 100000 in
set_option maxHeartbeats 4000000 in
theorem refTrim_any (s : ByteArray) (w : World) (hs : s.size ≤ 20000) :
    Calls Tryd.prog 19 #[.string s] w fun e w' => e = .returned (.string ⟨(low (Lib.trimB s.data.toList 32)).toArray⟩) ∧ Below w.heap.size w w' := by
  go_enter Tryd.func19, Tryd.ntmps19
  go_wp2_with fail
  go_loop [0] (fun v => ∃ t : ByteArray, v = .string t ∧ t.size ≤ s.size ∧ Lib.trimB t.data.toList 32 = Lib.trimB s.data.toList 32) (fun v => strSize v)
  case atStart => exact ⟨s, rfl, Nat.le_refl _, rfl⟩
  case round =>
    obtain ⟨t, rfl, hts, htr⟩ := hrel
    have HTR := Lib.hid htr
    clear htr
    by_cases hz : ∃ h : 0 < t.size, t[0] = 32
    · obtain ⟨hz, hb⟩ := hz
      have hbt : ((t[0].toNat : Int) == 32) = true := by rw [hb]; rfl
      have HN := Lib.hid ((trim_head hz hb).trans HTR.out)
      clear hb
      go_wp2
      go_round
      case rel => exact ⟨_, rfl, by rw [ByteArray.size_extract]; omega, HN.out⟩
      case measure => simp [strSize]; omega
    · have HH : Hid (∀ h : 0 < t.size, t[0] ≠ 32) := Lib.hid fun h e => hz ⟨h, e⟩
      clear hz
      have hw : t.size ≤ 0 ∨ ∃ h : 0 < t.size, ((t[0].toNat : Int) == 32) = false := by
        rcases Nat.eq_zero_or_pos t.size with h | h
        · exact .inl (by omega)
        · exact .inr ⟨h, by rw [beq_eq_false_iff_ne]; intro e; exact HH.out h (UInt8.toNat_inj.1 (by simpa using Int.ofNat.inj e))⟩
      rcases hw with hw | ⟨hw, hw2⟩
      all_goals
        go_wp2_with fail
        go_loop [0] (fun v => ∃ u : ByteArray, v = .string u ∧ u.size ≤ s.size ∧ Lib.trimB u.data.toList 32 = Lib.trimB s.data.toList 32 ∧ ∀ h : 0 < u.size, u[0] ≠ 32) (fun v => strSize v)
        case atStart => exact ⟨t, rfl, hts, HTR.out, HH.out⟩
        case round =>
          obtain ⟨u, rfl, hus, hut, huh⟩ := hrel
          have HUT := Lib.hid hut
          have HUH := Lib.hid huh
          clear hut huh
          by_cases hz : ∃ h : 0 < u.size, u[u.size - 1] = 32
          · obtain ⟨hz, hb⟩ := hz
            have hbt : ((u[u.size - 1].toNat : Int) == 32) = true := by rw [hb]; rfl
            have HN := Lib.hid ((trim_last hz hb).trans HUT.out)
            have HM : Hid (∀ h : 0 < (u.extract 0 (u.size - 1)).size, (u.extract 0 (u.size - 1))[0] ≠ 32) := Lib.hid (by
              intro h e
              have h' := h
              rw [ByteArray.size_extract] at h'
              have h1 := getB (u.extract 0 (u.size - 1)) 0 h
              rw [e, extract_from, List.getElem?_take_of_lt (by omega), getB u 0 (by omega)] at h1
              exact HUH.out hz (Option.some.inj h1))
            clear hb
            go_wp2_with fail
            go_round
            case rel => exact ⟨_, rfl, by rw [ByteArray.size_extract]; omega, HN.out, HM.out⟩
            case measure => simp [strSize]; omega
          · have HL : Hid (∀ h : 0 < u.size, u[u.size - 1] ≠ 32) := Lib.hid fun h e => hz ⟨h, e⟩
            have HD : Hid (u.data.toList = Lib.trimB s.data.toList 32) := Lib.hid (by rw [← HUT.out]; exact (trim_done HUH.out HL.out).symm)
            clear hz HUT
            have hw : u.size ≤ 0 ∨ ∃ h : 0 < u.size, ((u[u.size - 1].toNat : Int) == 32) = false := by
              rcases Nat.eq_zero_or_pos u.size with h | h
              · exact .inl (by omega)
              · exact .inr ⟨h, by rw [beq_eq_false_iff_ne]; intro e; exact HL.out h (UInt8.toNat_inj.1 (by simpa using Int.ofNat.inj e))⟩
            rcases hw with hw | ⟨hw, hw2⟩
            all_goals
              go_wp2_with fail
              obtain ⟨i0, hi, hz0, hz1, hz2⟩ := info_parts Tryd.infoByte
              try clear hw2
              clear hw
              go_loopw [3, 4, 5] (fun b i _ wr => ∃ k : Nat, k ≤ u.size ∧ i = .int .i64 k ∧ wr.ownsRow w.heap.size 5 1 b k (bv (low (u.data.toList.take k))) ∧ Below w.heap.size w wr) (fun _ i _ _ => u.size - (intOf i).toNat)
              case atStart => exact ⟨0, by omega, rfl, World.ownsRow_nil _ _ _ _, Below.refl _ _⟩
              case round =>
                obtain ⟨k, hk, rfl, hrow, hb⟩ := hrel
                by_cases hlt : k < u.size
                · have hB : w.heap.size ≤ wr.heap.size := hb.size
                  have hst := take_snoc (getB u k hlt)
                  have HS : Hid (bv (low (u.data.toList.take (k + 1))) = bv (low (u.data.toList.take k)) ++ [.int .u8 ((lowc u[k]).toNat : Int)]) := Lib.hid (by rw [hst]; simp [low, bv])
                  clear hst
                  by_cases hc : 65 ≤ (u[k].toNat : Int) ∧ (u[k].toNat : Int) ≤ 90
                  · obtain ⟨c1, c2⟩ := hc
                    have HE := Lib.hid (lowc_yes c1 c2)
                    first
                    | (exfalso; omega)
                    | (go_wp2_with (at_builtin; refine wpList_append_own _ rfl _ _ 49 rfl w.heap.size 5 i0 (.int .u8 0) 1 1 Tryd.underlying49 hi hz0 hz1 hz2 rfl (by decide) _ _ _ rfl (hrow.alloc _) ⟨wr.heap.size, 0, none⟩ 1 1 [.int .u8 ((u[k].toNat : Int) + 32)] rfl rfl (cell_one_new _ _ _) (by simp [Value.oneCell']) (by unfold maxLen; omega) (by omega) (by simp; omega) ?_; intro v' w1 hown' hgrow _; have HB1 := Lib.hid (hb.trans (below_append hrow hB hgrow)); have HO := Lib.hid hown'; clear hown' hgrow)
                       go_roundw
                       case rel => exact ⟨k + 1, by omega, by go_num, by rw [HS.out, ← HE.out]; exact HO.out, HB1.out⟩
                       case measure => simp [intOf]; omega)
                  · have HE := Lib.hid (lowc_no hc)
                    have hc' : ¬ 65 ≤ (u[k].toNat : Int) ∨ (65 ≤ (u[k].toNat : Int) ∧ ¬ (u[k].toNat : Int) ≤ 90) := by omega
                    rcases hc' with c1 | ⟨c1, c2⟩
                    all_goals
                      first
                      | (exfalso; omega)
                      | (go_wp2_with (at_builtin; refine wpList_append_own _ rfl _ _ 49 rfl w.heap.size 5 i0 (.int .u8 0) 1 1 Tryd.underlying49 hi hz0 hz1 hz2 rfl (by decide) _ _ _ rfl (hrow.alloc _) ⟨wr.heap.size, 0, none⟩ 1 1 [.int .u8 (u[k].toNat : Int)] rfl rfl (cell_one_new _ _ _) (by simp [Value.oneCell']) (by unfold maxLen; omega) (by omega) (by simp; omega) ?_; intro v' w1 hown' hgrow _; have HB1 := Lib.hid (hb.trans (below_append hrow hB hgrow)); have HO := Lib.hid hown'; clear hown' hgrow)
                         go_roundw
                         case rel => exact ⟨k + 1, by omega, by go_num, by rw [HS.out, HE.out]; exact HO.out, HB1.out⟩
                         case measure => simp [intOf]; omega)
                · obtain rfl : k = u.size := by omega
                  have hT : u.data.toList.take u.size = u.data.toList := List.take_of_length_le (by rw [Array.length_toList]; exact Nat.le_refl _)
                  rw [hT] at hrow
                  have hst := string_row (l := low u.data.toList) (by rw [low_length, Array.length_toList]; exact hrow)
                  rw [HD.out] at hst
                  have HB := Lib.hid hb
                  clear hrow hb hT
                  go_wp2
                  go_ret
                  exact ⟨rfl, HB.out⟩
end Go.Proofs.YtcpenjbacgjjeaaDoor
