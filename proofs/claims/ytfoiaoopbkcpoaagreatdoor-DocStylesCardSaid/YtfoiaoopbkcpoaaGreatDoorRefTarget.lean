/- The walk of the reference's Target, Link. -/
import Derived.Test.YtfoiaoopbkcpoaaGreatDoorRefValue
import Derived.Test.YtfoiaoopbkcpoaaGreatDoorMay
import Derived.Lib.TrimAscii
namespace Go.Proofs.Qw
open Go.RowKit Go.Proofs.YtfoiaoopbkcpoaaGreatDoor

def lowB (b : UInt8) : UInt8 := if 65 ≤ b.toNat ∧ b.toNat ≤ 90 then b + 32 else b
theorem cut_colon : ∀ (l : List UInt8), Lib.index l [58] = if l.takeWhile (· != 58) = l then -1 else ((l.takeWhile (· != 58)).length : Int)
  | [] => rfl
  | b :: l => by
    have ih := cut_colon l
    by_cases h : b = 58
    · subst h
      rw [show Lib.index (58 :: l) [58] = 0 from by rw [Lib.index]; rfl]
      simp
    · have hp : ([58] : List UInt8).isPrefixOf (b :: l) = false := by
        simp [List.isPrefixOf, Ne.symm h]
      have hb : (b != 58) = true := by simpa using h
      rw [Lib.index, hp, ih, List.takeWhile_cons, if_pos hb, if_neg (by simp : ¬ (false = true))]
      by_cases e : l.takeWhile (· != 58) = l
      · simp [e]
      · have e' : ¬ (b :: l.takeWhile (· != 58) = b :: l) := by simpa using e
        rw [if_neg e, if_neg e', if_neg (by simp)]
        simp
theorem cut_fst (l : List UInt8) : (Lib.cut l [58]).1 = l.takeWhile (· != 58) := by
  unfold Lib.cut
  rw [cut_colon]
  by_cases e : l.takeWhile (· != 58) = l
  · rw [if_pos e, if_neg (by omega), e]
  · rw [if_neg e, if_pos (by omega)]
    simp only [Int.toNat_natCast]
    conv => lhs; arg 2; rw [← List.takeWhile_append_dropWhile (p := (· != 58)) (l := l)]
    rw [List.take_left]
theorem takeWhile_take {l : List UInt8} {k : Nat} (h : ∀ j, j < k → l[j]? ≠ some 58) (hk : k ≤ l.length) (he : k = l.length ∨ l[k]? = some 58) : l.takeWhile (· != 58) = l.take k := by
  induction l generalizing k with
  | nil => simp
  | cons b l ih =>
    cases k with
    | zero =>
      rcases he with he | he
      · cases he
      · cases he; simp
    | succ k =>
      have hb : b ≠ 58 := fun e => h 0 (by omega) (by rw [e]; rfl)
      rw [List.takeWhile_cons, if_pos (by simpa using hb), List.take_succ_cons, ih (k := k) (fun j hj => by simpa using h (j + 1) (by omega)) (by simpa using hk) (by simpa using he)]
theorem lowB_ascii {b : UInt8} (h : b.toNat < 128) : Lib.encodeRune (lowR (b.toNat : Int)) = [lowB b] := by
  unfold lowR lowB Lib.encodeRune
  by_cases hu : 65 ≤ b.toNat ∧ b.toNat ≤ 90
  · rw [if_pos (by omega), if_pos hu, Lib.encodeRuneZ_one (by omega) (by omega)]
    simp only [List.map_cons, List.map_nil, List.cons.injEq, and_true]
    apply UInt8.toNat_inj.1
    rw [show ((b.toNat : Int) + 32).toNat = b.toNat + 32 by omega]
    simp [UInt8.toNat_add]
  · rw [if_neg (by omega), if_neg hu, Lib.encodeRuneZ_one (by omega) (by omega)]
    simp
theorem high_rune {r : Int} (h : 128 ≤ r) : ∃ x t, Lib.encodeRune r = x :: t ∧ 128 ≤ x.toNat := by
  unfold Lib.encodeRune Lib.encodeRuneZ
  rw [if_neg (by omega)]
  have key : ∀ z : Int, 192 ≤ z → z ≤ 255 → 128 ≤ (z.toNat.toUInt8).toNat := by
    intro z h1 h2
    simp [Nat.toUInt8]
    omega
  split
  · exact ⟨_, _, rfl, key _ (by omega) (by omega)⟩
  · split
    · exact ⟨_, _, rfl, key _ (by omega) (by omega)⟩
    · split
      · exact ⟨_, _, rfl, key _ (by omega) (by omega)⟩
      · exact ⟨_, _, rfl, key _ (by omega) (by omega)⟩
theorem mapD_low : ∀ (n : Nat) (l t : List UInt8), l.length ≤ n → (∀ b ∈ t, b.toNat < 128) → (Lib.mapD lowR l = t ↔ l.map lowB = t)
  | 0, l, t, hl, _ => by
    have : l = [] := List.length_eq_zero_iff.1 (by omega)
    subst this
    rw [Lib.mapD_nil]; rfl
  | n + 1, [], t, _, _ => by rw [Lib.mapD_nil]; rfl
  | n + 1, b :: l, t, hl, ht => by
    by_cases hb : b.toNat < 128
    · rw [Lib.mapD_step _ _ (by simp), Lib.decodeL_ascii b l hb]
      simp only
      have hp : 0 ≤ lowR (b.toNat : Int) := by unfold lowR; split <;> omega
      rw [if_pos hp, lowB_ascii hb, List.drop_succ_cons, List.drop_zero]
      cases t with
      | nil => simp
      | cons c t =>
        rw [List.singleton_append, List.map_cons, List.cons.injEq, List.cons.injEq, mapD_low n l t (by simpa using hl) (fun x hx => ht x (by simp [hx]))]
    · have h128 : 128 ≤ (Lib.decodeL (b :: l)).1 := by
        have := (decode_high (⟨(b :: l).toArray⟩ : ByteArray) 0 (by show 0 < (b :: l).toArray.size; simp) (by show 128 ≤ ((b :: l).toArray[0]).toNat; simp; omega)).1
        exact this
      have hlow : lowR ((Lib.decodeL (b :: l)).1 : Int) = (Lib.decodeL (b :: l)).1 := by unfold lowR; rw [if_neg (by omega)]
      obtain ⟨x, y, hx, hx2⟩ := high_rune (r := ((Lib.decodeL (b :: l)).1 : Int)) (by omega)
      rw [Lib.mapD_step _ _ (by simp), hlow, if_pos (by omega), hx]
      have hlb : lowB b = b := by unfold lowB; rw [if_neg (by omega)]
      rw [List.map_cons, hlb]
      cases t with
      | nil => simp
      | cons c t =>
        have hc := ht c (by simp)
        constructor
        · intro e
          rw [List.cons_append, List.cons.injEq] at e
          rw [e.1] at hx2
          omega
        · intro e
          rw [List.cons.injEq] at e
          rw [e.1] at hb
          omega
theorem js_eq (l : List UInt8) : (Lib.mapD lowR l == javascript) = decide (l.map lowB = javascript) := by
  rw [Bool.eq_iff_iff, beq_iff_eq, decide_eq_true_eq]
  exact mapD_low l.length l javascript (Nat.le_refl _) (by decide)
end Go.Proofs.Qw
namespace Go.Proofs.YtfoiaoopbkcpoaaGreatDoor
open Go.RowKit
open Go.Proofs.Qw

set_option maxRecDepth 100000 in
set_option maxHeartbeats 4000000 in
theorem refTarget_any (s : ByteArray) (w : World) (hs : s.size ≤ 1000000) :
    Calls Tryz.prog 116 #[.string s] w fun e w' => e = .returned (.bool (targetF s.data.toList)) ∧ Below w.heap.size w w' := by
  have HV := Lib.hid (refValue_any s w hs)
  have HT : Hid (targetF s.data.toList = (valueB s && (decide (s.data.toList ≠ []) && (decide (s.data.toList.head? ≠ some 32) && (decide (s.data.toList.getLast? ≠ some 32) && !(decide ((s.data.toList.takeWhile (· != 58)).map lowB = javascript))))))) := Lib.hid (by
    unfold targetF valueF
    rw [js_eq, cut_fst])
  have hcs : (valueB s = false) ∨ (valueB s = true ∧ s.size = 0) ∨ (valueB s = true ∧ 0 < s.size) := by
    cases valueB s
    · exact .inl rfl
    · rcases Nat.eq_zero_or_pos s.size with h | h
      · exact .inr (.inl ⟨rfl, h⟩)
      · exact .inr (.inr ⟨rfl, h⟩)
  rcases hcs with hv | ⟨hv, hz⟩ | ⟨hv, hz⟩
  · have HF : Hid (targetF s.data.toList = false) := Lib.hid (by rw [HT.out, hv]; rfl)
    rw [hv] at HV
    clear hv HT
    go_enter Tryz.func116, Tryz.ntmps116
    go_wp2_with (go_at_call 141; refine HV.out.mono ?_; rintro e w1 ⟨rfl, hb1⟩)
    go_ret
    rw [HF.out]
    exact ⟨rfl, hb1⟩
  · have hnil : s.data.toList = [] := List.length_eq_zero_iff.1 (by rw [Array.length_toList]; exact hz)
    have HF : Hid (targetF s.data.toList = false) := Lib.hid (by rw [HT.out, hnil]; simp)
    have hne2 : s.toList.isEmpty = true := by rw [toList_eq, hnil]; rfl
    rw [hv] at HV
    clear hv HT hnil
    go_enter Tryz.func116, Tryz.ntmps116
    go_wp2_with (go_at_call 141; refine HV.out.mono ?_; rintro e w1 ⟨rfl, hb1⟩)
    go_ret
    rw [HF.out]
    exact ⟨rfl, hb1⟩
  · have hne : s.data.toList ≠ [] := by
      intro e
      have h2 : s.data.toList.length = s.size := Array.length_toList
      rw [e, List.length_nil] at h2
      omega
    have h0 := byte_ne (byte_head s hz)
    have h1 := byte_ne (byte_last s hz)
    have HN : Hid (targetF s.data.toList = (((s[0].toNat : Int) != 32) && (((s[s.size - 1].toNat : Int) != 32) && !(decide ((s.data.toList.takeWhile (· != 58)).map lowB = javascript))))) := Lib.hid (by
      rw [HT.out, h0, h1, decide_eq_true hne, Bool.true_and, hv, Bool.true_and])
    have hne2 : s.toList.isEmpty = false := by rw [toList_eq]; simpa using hne
    rw [hv] at HV
    clear h0 h1 HT hne hv
    have hcs : (((s[0].toNat : Int) == 32) = true) ∨ (((s[0].toNat : Int) == 32) = false ∧ ((s[s.size - 1].toNat : Int) == 32) = true) ∨ (((s[0].toNat : Int) == 32) = false ∧ ((s[s.size - 1].toNat : Int) == 32) = false) := by
      cases ((s[0].toNat : Int) == 32) <;> cases ((s[s.size - 1].toNat : Int) == 32) <;> simp
    rcases hcs with e1 | ⟨e1, e2⟩ | ⟨e1, e2⟩
    · have HF : Hid (targetF s.data.toList = false) := Lib.hid (by rw [HN.out, bne, e1]; rfl)
      clear HN
      go_enter Tryz.func116, Tryz.ntmps116
      go_wp2_with (go_at_call 141; refine HV.out.mono ?_; rintro e w1 ⟨rfl, hb1⟩)
      go_ret
      rw [HF.out]
      exact ⟨rfl, hb1⟩
    · have HF : Hid (targetF s.data.toList = false) := Lib.hid (by rw [HN.out, bne, bne, e1, e2]; rfl)
      clear HN
      go_enter Tryz.func116, Tryz.ntmps116
      go_wp2_with (go_at_call 141; refine HV.out.mono ?_; rintro e w1 ⟨rfl, hb1⟩)
      go_ret
      rw [HF.out]
      exact ⟨rfl, hb1⟩
    · have HF : Hid (targetF s.data.toList = !(decide ((s.data.toList.takeWhile (· != 58)).map lowB = javascript))) := Lib.hid (by rw [HN.out, bne, bne, e1, e2]; rfl)
      clear HN
      go_enter Tryz.func116, Tryz.ntmps116
      go_wp2_with (go_at_call 141; refine HV.out.mono ?_; rintro e w1 ⟨rfl, hb1⟩)
      obtain ⟨jb, hjb⟩ : ∃ jb : ByteArray, (⟨#[106, 97, 118, 97, 115, 99, 114, 105, 112, 116]⟩ : ByteArray) = jb := ⟨_, rfl⟩
      have hj1 : jb.data.toList = javascript := by rw [← hjb]; rfl
      have hj2 : jb.size = 10 := by rw [← hjb]; rfl
      rw [hjb]
      have HJ := Lib.hid hj1
      clear hjb hj1
      have hsl : s.data.toList.length = s.size := Array.length_toList
      have HSL := Lib.hid hsl
      clear hsl
      go_loopw [4] (fun i wr => ∃ k : Nat, k ≤ s.size ∧ i = .int .i64 k ∧ Hid (∀ j, j < k → s.data.toList[j]? ≠ some 58) ∧ wr = w1) (fun i _ => s.size - (intOf i).toNat)
      case atStart => exact ⟨0, Nat.zero_le _, rfl, Lib.hid (fun j hj => absurd hj (Nat.not_lt_zero _)), rfl⟩
      case round =>
        obtain ⟨k, hk, rfl, HA, rfl⟩ := hrel
        have hcs : (k < s.size ∧ Hid (s.data.toList[k]? ≠ some 58)) ∨ (k < s.size ∧ Hid (s.data.toList[k]? = some 58)) ∨ k = s.size := by
          by_cases h1 : k < s.size
          · by_cases h2 : s.data.toList[k]? = some 58
            · exact .inr (.inl ⟨h1, h2⟩)
            · exact .inl ⟨h1, h2⟩
          · exact .inr (.inr (by omega))
        rcases hcs with ⟨hlt, H2⟩ | ⟨hlt, H2⟩ | he
        · have hb : ((s[k].toNat : Int) != 58) = true := by
            have h3 : s.data.toList[k]? = some s[k] := by rw [Array.getElem?_toList, Array.getElem?_eq_getElem hlt]; rfl
            have h4 := H2.out
            rw [h3] at h4
            have h5 : s[k] ≠ 58 := fun e => h4 (by rw [e])
            have h6 : ¬ s[k].toNat = 58 := fun e => h5 (UInt8.toNat_inj.1 e)
            simp
            omega
          have HN : Hid (∀ j, j < k + 1 → s.data.toList[j]? ≠ some 58) := Lib.hid (fun j hj => by
            by_cases e : j = k
            · subst e; exact H2.out
            · exact HA.out j (by omega))
          go_wp2_with fail
          go_roundw
          case rel => exact ⟨k + 1, hlt, by go_num, HN, by first | rfl | trivial⟩
          case measure => simp [intOf]; omega
        all_goals
          have HE : Hid (s.data.toList.takeWhile (· != 58) = s.data.toList.take k) := Lib.hid (takeWhile_take HA.out (by rw [HSL.out]; exact hk) (by first | exact .inr H2.out | exact .inl (by rw [HSL.out]; exact he)))
          have hend : Hid (k < s.size → (decide ((k : Int) < (s.size : Int)) = true)) := Lib.hid (fun h => by simpa using h)
          have hstop : (∃ h : k < s.size, ((s[k].toNat : Int) != 58) = false) ∨ k = s.size := by
            first
              | exact .inr he
              | exact .inl ⟨hlt, by
                  have h3 : s.data.toList[k]? = some s[k] := by rw [Array.getElem?_toList, Array.getElem?_eq_getElem hlt]; rfl
                  have h4 := H2.out
                  rw [h3] at h4
                  have h5 : s[k] = 58 := by simpa using h4
                  rw [h5]; rfl⟩
          by_cases h10 : k = 10
          · subst h10
            have hq : ((10 : Int) != ((10 : Nat) : Int)) = false := by decide
            rcases hstop with ⟨hlt, hb⟩ | he
            all_goals
              (try (exfalso; omega))
            all_goals
              go_wp2_with fail
              go_loopw [5, 6] (fun i _ wi => ∃ q : Nat, q ≤ 10 ∧ i = .int .i64 q ∧ Hid ((s.data.toList.take q).map lowB = javascript.take q) ∧ wi = wr) (fun i _ _ => 10 - (intOf i).toNat)
              case atStart => exact ⟨0, Nat.zero_le _, rfl, Lib.hid rfl, rfl⟩
              case round =>
                obtain ⟨q, hq, rfl, HM, rfl⟩ := hrel
                by_cases hlt2 : q < 10
                · have hqs : q < s.size := by omega
                  have hqj : q < jb.size := by omega
                  have g1 : s.data.toList[q]? = some s[q] := by rw [Array.getElem?_toList, Array.getElem?_eq_getElem hqs]; rfl
                  have g2 : javascript[q]? = some jb[q] := by rw [← HJ.out, Array.getElem?_toList, Array.getElem?_eq_getElem hqj]; rfl
                  have hst : Hid (lowB s[q] = jb[q] → (s.data.toList.take (q + 1)).map lowB = javascript.take (q + 1)) := Lib.hid fun e => by
                    rw [take_some g1, take_some g2, List.map_append, HM.out, List.map_cons, List.map_nil, e]
                  have hno : Hid (lowB s[q] ≠ jb[q] → targetF s.data.toList = true) := Lib.hid fun e => by
                    rw [HF.out, HE.out]
                    have : ¬ ((s.data.toList.take 10).map lowB = javascript) := fun e2 => by
                      have := congrArg (fun l => l[q]?) e2
                      simp only [List.getElem?_map, List.getElem?_take, if_pos hlt2, g1, g2, Option.map_some, Option.some.injEq] at this
                      exact e this
                    rw [decide_eq_false this]; rfl
                  have hub : (s[q].toNat : Int) ≤ 255 := by have := s[q].toNat_lt; omega
                  have hcs : ((65 ≤ (s[q].toNat : Int) ∧ (s[q].toNat : Int) ≤ 90) ∧ (lowB s[q]).toNat = s[q].toNat + 32) ∨ (decide (65 ≤ (s[q].toNat : Int)) = false ∧ (lowB s[q]).toNat = s[q].toNat) ∨ (65 ≤ (s[q].toNat : Int) ∧ decide ((s[q].toNat : Int) ≤ 90) = false ∧ (lowB s[q]).toNat = s[q].toNat) := by
                    unfold lowB
                    by_cases h1 : 65 ≤ s[q].toNat
                    · by_cases h2 : s[q].toNat ≤ 90
                      · refine .inl ⟨⟨by omega, by omega⟩, ?_⟩
                        rw [if_pos ⟨h1, h2⟩]
                        simp [UInt8.toNat_add]
                        omega
                      · refine .inr (.inr ⟨by omega, by simp; omega, ?_⟩)
                        rw [if_neg (by omega)]
                    · refine .inr (.inl ⟨by simp; omega, ?_⟩)
                      rw [if_neg (by omega)]
                  have heq : Hid ((lowB s[q]).toNat = jb[q].toNat → lowB s[q] = jb[q]) := Lib.hid UInt8.toNat_inj.1
                  have hne3 : Hid ((lowB s[q]).toNat ≠ jb[q].toNat → lowB s[q] ≠ jb[q]) := Lib.hid fun e h => e (by rw [h])
                  clear g1 g2
                  rcases hcs with ⟨⟨u1, u2⟩, hl⟩ | ⟨u1, hl⟩ | ⟨u1, u2, hl⟩
                  · by_cases ht : s[q].toNat + 32 = jb[q].toNat
                    · have ht2 : ((s[q].toNat : Int) + 32 != (jb[q].toNat : Int)) = false := by simp; omega
                      have HS := Lib.hid (hst.out (heq.out (by omega)))
                      clear hl ht
                      go_wp2_with fail
                      go_roundw
                      case rel => exact ⟨q + 1, by omega, by go_num, HS, by first | rfl | trivial⟩
                      case measure => simp [intOf]; omega
                    · have ht2 : ((s[q].toNat : Int) + 32 != (jb[q].toNat : Int)) = true := by simp; omega
                      have HS := Lib.hid (hno.out (hne3.out (by omega)))
                      clear hl ht
                      go_wp2_with fail
                      go_ret
                      rw [HS.out]
                      exact ⟨rfl, hb1⟩
                  all_goals
                    by_cases ht : s[q].toNat = jb[q].toNat
                    · have ht2 : ((s[q].toNat : Int) != (jb[q].toNat : Int)) = false := by simp; omega
                      have HS := Lib.hid (hst.out (heq.out (by omega)))
                      clear hl ht
                      go_wp2_with fail
                      go_roundw
                      case rel => exact ⟨q + 1, by omega, by go_num, HS, by first | rfl | trivial⟩
                      case measure => simp [intOf]; omega
                    · have ht2 : ((s[q].toNat : Int) != (jb[q].toNat : Int)) = true := by simp; omega
                      have HS := Lib.hid (hno.out (hne3.out (by omega)))
                      clear hl ht
                      go_wp2_with fail
                      go_ret
                      rw [HS.out]
                      exact ⟨rfl, hb1⟩
                · obtain rfl : q = 10 := by omega
                  have HR : Hid (targetF s.data.toList = false) := Lib.hid (by
                    rw [HF.out, HE.out, HM.out]; rfl)
                  go_wp2_with fail
                  go_ret
                  rw [HR.out]
                  exact ⟨rfl, hb1⟩
          · have HR : Hid (targetF s.data.toList = true) := Lib.hid (by
              rw [HF.out, HE.out]
              have : ¬ ((s.data.toList.take k).map lowB = javascript) := fun e => by
                have := congrArg List.length e
                rw [List.length_map, List.length_take, HSL.out] at this
                simp [javascript] at this
                omega
              rw [decide_eq_false this]; rfl)
            have hq : ((k : Int) != (10 : Int)) = true := by simp; omega
            rcases hstop with ⟨hlt, hb⟩ | he
            all_goals first
              | (exfalso; omega)
              | (go_wp2_with fail
                 go_ret
                 rw [HR.out]
                 exact ⟨rfl, hb1⟩)
end Go.Proofs.YtfoiaoopbkcpoaaGreatDoor
