/- The walk of the reference's Value. -/
import Derived.Test.YtfoiaoopbkcpoaaGreatDoorRefChars
namespace Go.Proofs.YtfoiaoopbkcpoaaGreatDoor
open Go.RowKit
open Go.Proofs.Qw

theorem valueB_eq (s : ByteArray) : valueB s = (decide (s.size ≤ 200) && (((runesBytes (runesB s)).toList == s.toList) && (runesB s).all mayR)) := by
  have h : ((runesBytes (runesB s)).toList == s.toList) = Lib.validD s.data.toList := by
    rw [toList_eq, toList_eq, runesBytes_eq, Bool.eq_iff_iff, beq_iff_eq]
    exact runesB_back s
  rw [h]
  unfold valueB
  cases (runesB s).all mayR <;> cases decide (s.size ≤ 200) <;> cases Lib.validD s.data.toList <;> rfl
theorem runes_shape {own : Bool} {w : World} {S : Nat → Prop} {v : Value} {d : List Int} (h : RunesR own w S v d) :
    ∃ a c, v = .slice a d.length c ∧ d.length ≤ c ∧ c ≤ maxLen ∧ ∀ i l, d[i]? = some l → ∃ b o, a = some ⟨b, o, none⟩ ∧ b < w.heap.size ∧ w.cell? ⟨b, o + i, none⟩ = some (.int .i32 l) := by
  obtain ⟨a, c, rfl, hc, hm, hx⟩ := h.shape
  refine ⟨a, c, rfl, hc, hm, fun i l hl => ?_⟩
  obtain ⟨b, o, vs, rfl, hz, _, _, e, he⟩ := hx i l hl
  cases e
  have := he 0 _ rfl
  rw [Nat.mul_one] at this
  exact ⟨b, o, rfl, hz, this⟩
/-- 'string(l)' of runes. -/
theorem string_runes {own : Bool} {w : World} {S : Nat → Prop} {v : Value} {d : List Int} (h : RunesR own w S v d) : (convert 149 9 v).run Tryz.prog w = .ok (.string (runesBytes d)) w := by
  obtain ⟨a, c, rfl, hc, hm, hx⟩ := runes_shape h
  cases a with
  | none =>
    have hd : d = [] := by
      cases d with
      | nil => rfl
      | cons x l => obtain ⟨_, _, e, _⟩ := hx 0 x rfl; cases e
    subst hd
    rw [run_convert_runes_nil w 149 9 21 _ _ Tryz.underlying149 Tryz.underlying21 Tryz.underlying9]
    rfl
  | some a =>
    rw [run_convert_runes w 149 9 21 a d.length c d (Nat.le_refl _) Tryz.underlying149 Tryz.underlying21 Tryz.underlying9 (fun j hj => by
      obtain ⟨b, o, e, _, h2⟩ := hx j d[j] (List.getElem?_eq_getElem hj)
      cases e
      rw [show (⟨b, o, none⟩ : Addr).add j = ⟨b, o + j, none⟩ by unfold Addr.add; split <;> simp_all]
      rw [h2]
      simp [List.getD, hj])]
    rw [List.take_length]
theorem all_take {α : Type} {f : α → Bool} {l : List α} {k : Nat} {x : α} (hx : l[k]? = some x) (h : (l.take k).all f = true) (hf : f x = true) : (l.take (k + 1)).all f = true := by
  rw [take_some hx, List.all_append, h]; simp [hf]
theorem all_no {α : Type} {f : α → Bool} {l : List α} {k : Nat} {x : α} (hx : l[k]? = some x) (hf : f x = false) : l.all f = false := by
  rw [List.all_eq_false]
  exact ⟨x, List.mem_of_getElem? hx, by simp [hf]⟩

set_option maxRecDepth 100000 in
set_option maxHeartbeats 2000000 in
theorem refValue_any (s : ByteArray) (w : World) (hs : s.size ≤ 1000000) :
    Calls Tryz.prog 141 #[.string s] w fun e w' => e = .returned (.bool (valueB s)) ∧ Below w.heap.size w w' := by
  have HC := Lib.hid (refRunes_any s w (by omega))
  have HV := Lib.hid (valueB_eq s)
  have hln : (runesB s).length ≤ 1000000 := by
    have hz := size_runesFrom s s.size 0 #[]
    rw [runesFrom_eq] at hz
    simp at hz
    unfold runesB
    omega
  have hcs : (200 < s.size ∧ valueB s = false) ∨ (s.size ≤ 200 ∧ ((runesBytes (runesB s)).toList == s.toList) = false ∧ valueB s = false) ∨ (s.size ≤ 200 ∧ ((runesBytes (runesB s)).toList == s.toList) = true ∧ valueB s = (runesB s).all mayR) := by
    rw [HV.out]
    by_cases h1 : s.size ≤ 200
    · cases h2 : ((runesBytes (runesB s)).toList == s.toList) <;> simp [h1]
    · simp [h1]; omega
  obtain ⟨t, ht⟩ : ∃ t, runesBytes (runesB s) = t := ⟨_, rfl⟩
  rw [ht] at hcs
  have HT := Lib.hid ht
  clear ht
  go_enter Tryz.func141, Tryz.ntmps141
  rcases hcs with ⟨h1, hv⟩ | ⟨h1, h2, hv⟩ | ⟨h1, h2, hv⟩
  · have HR := Lib.hid hv
    clear hv
    go_wp2_with (go_at_call 152; refine HC.out.mono ?_; rintro e w2 ⟨v2, rfl, hv2, hb2⟩; have hcv := string_runes hv2; rw [HT.out] at hcv; obtain ⟨a2, c2, rfl, hc2, hm2, hx2⟩ := runes_shape hv2; have HX := Lib.hid hx2; clear hx2 hv2; unfold maxLen at hm2)
    go_ret
    rw [HR.out]
    exact ⟨rfl, hb2⟩
  · have HR := Lib.hid hv
    clear hv
    go_wp2_with (go_at_call 152; refine HC.out.mono ?_; rintro e w2 ⟨v2, rfl, hv2, hb2⟩; have hcv := string_runes hv2; rw [HT.out] at hcv; obtain ⟨a2, c2, rfl, hc2, hm2, hx2⟩ := runes_shape hv2; have HX := Lib.hid hx2; clear hx2 hv2; unfold maxLen at hm2)
    go_ret
    rw [HR.out]
    exact ⟨rfl, hb2⟩
  · have HR := Lib.hid hv
    clear hv
    go_wp2_with (go_at_call 152; refine HC.out.mono ?_; rintro e w2 ⟨v2, rfl, hv2, hb2⟩; have hcv := string_runes hv2; rw [HT.out] at hcv; obtain ⟨a2, c2, rfl, hc2, hm2, hx2⟩ := runes_shape hv2; have HX := Lib.hid hx2; clear hx2 hv2; unfold maxLen at hm2)
    go_loopw [4] (fun i wr => ∃ k : Nat, k ≤ (runesB s).length ∧ i = .int .i64 k ∧ Hid (((runesB s).take k).all mayR = true) ∧ wr = w2) (fun i _ => (runesB s).length - (intOf i).toNat)
    case atStart => exact ⟨0, Nat.zero_le _, rfl, Lib.hid rfl, rfl⟩
    case round =>
      obtain ⟨k, hk, rfl, HA, rfl⟩ := hrel
      by_cases hlt : k < (runesB s).length
      · obtain ⟨x, hx, _⟩ := getOf (runesB s) k hlt
        obtain ⟨b, o, rfl, hz, c0⟩ := HX.out k x hx
        have HX2 := Lib.hid hx
        have HM : Hid (∀ W, Calls Tryz.prog 87 #[.int .i32 x] W fun e w' => e = .returned (.bool (mayR x)) ∧ w' = W) := Lib.hid fun W => refCharMay_any x W
        clear hx
        cases hm : mayR x
        · rw [hm] at HM
          have HF := Lib.hid (all_no HX2.out hm)
          clear hm
          go_wp2_with (go_at_call 87; refine (HM.out _).mono ?_; rintro e w3 ⟨rfl, rfl⟩)
          go_ret
          rw [HR.out, HF.out]
          exact ⟨rfl, hb2⟩
        · rw [hm] at HM
          have HF := Lib.hid (all_take HX2.out HA.out hm)
          clear hm
          go_wp2_with (go_at_call 87; refine (HM.out _).mono ?_; rintro e w3 ⟨rfl, rfl⟩)
          go_roundw
          case rel => exact ⟨k + 1, hlt, by go_num, HF, by first | rfl | trivial⟩
          case measure => simp [intOf]; omega
      · obtain rfl : k = (runesB s).length := by omega
        have HF : Hid ((runesB s).all mayR = true) := Lib.hid (by have := HA.out; rwa [List.take_length] at this)
        go_wp2_with fail
        go_ret
        rw [HR.out, HF.out]
        exact ⟨rfl, hb2⟩
end Go.Proofs.YtfoiaoopbkcpoaaGreatDoor
