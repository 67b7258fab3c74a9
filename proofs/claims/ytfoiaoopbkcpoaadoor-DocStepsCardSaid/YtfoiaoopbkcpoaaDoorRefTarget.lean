/- The walk of the reference's Target, Link. -/
import Derived.Test.YtfoiaoopbkcpoaaDoorRefValue
import Derived.Test.YtfoiaoopbkcpoaaDoorMay
import Derived.Lib.TrimAscii
namespace Go.Proofs.Qw
open Go.RowKit Go.Proofs.YtfoiaoopbkcpoaaDoor

def lowB (b : UInt8) : UInt8 := if 65 ≤ b.toNat ∧ b.toNat ≤ 90 then b + 32 else b
theorem cut_colon : ∀ (l : List UInt8), Lib.index l [58] = if l.takeWhile (· != 58) = l then -1 else ((l.takeWhile (· != 58)).length : Int)
  | [] => rfl
  | b :: l => by
    have ih := cut_colon l
    by_cases h : b = 58
    · subst h
      rw [show Lib.index (58 :: l) [58] = 0 from by rw [Lib.index]; rfl]
      simp
    · have hp : ([58] : List UInt8).isPrefixOf (b :: l) = false := by
        simp [List.isPrefixOf, Ne.symm h]
      have hb : (b != 58) = true := by simpa using h
      rw [Lib.index, hp, ih, List.takeWhile_cons, if_pos hb, if_neg (by simp : ¬ (false = true))]
      by_cases e : l.takeWhile (· != 58) = l
      · simp [e]
      · have e' : ¬ (b :: l.takeWhile (· != 58) = b :: l) := by simpa using e
        rw [if_neg e, if_neg e', if_neg (by simp)]
        simp
theorem cut_fst (l : List UInt8) : (Lib.cut l [58]).1 = l.takeWhile (· != 58) := by
  unfold Lib.cut
  rw [cut_colon]
  by_cases e : l.takeWhile (· != 58) = l
  · rw [if_pos e, if_neg (by omega), e]
  · rw [if_neg e, if_pos (by omega)]
    simp only [Int.toNat_natCast]
    conv => lhs; arg 2; rw [← List.takeWhile_append_dropWhile (p := (· != 58)) (l := l)]
    rw [List.take_left]
theorem takeWhile_take {l : List UInt8} {k : Nat} (h : ∀ j, j < k → l[j]? ≠ some 58) (hk : k ≤ l.length) (he : k = l.length ∨ l[k]? = some 58) : l.takeWhile (· != 58) = l.take k := by
  induction l generalizing k with
  | nil => simp
  | cons b l ih =>
    cases k with
    | zero =>
      rcases he with he | he
      · cases he
      · cases he; simp
    | succ k =>
      have hb : b ≠ 58 := fun e => h 0 (by omega) (by rw [e]; rfl)
      rw [List.takeWhile_cons, if_pos (by simpa using hb), List.take_succ_cons, ih (k := k) (fun j hj => by simpa using h (j + 1) (by omega)) (by simpa using hk) (by simpa using he)]
theorem lowB_ascii {b : UInt8} (h : b.toNat < 128) : Lib.encodeRune (lowR (b.toNat : Int)) = [lowB b] := by
  unfold lowR lowB Lib.encodeRune
  by_cases hu : 65 ≤ b.toNat ∧ b.toNat ≤ 90
  · rw [if_pos (by omega), if_pos hu, Lib.encodeRuneZ_one (by omega) (by omega)]
    simp only [List.map_cons, List.map_nil, List.cons.injEq, and_true]
    apply UInt8.toNat_inj.1
    rw [show ((b.toNat : Int) + 32).toNat = b.toNat + 32 by omega]
    simp [UInt8.toNat_add]
  · rw [if_neg (by omega), if_neg hu, Lib.encodeRuneZ_one (by omega) (by omega)]
    simp
theorem high_rune {r : Int} (h : 128 ≤ r) : ∃ x t, Lib.encodeRune r = x :: t ∧ 128 ≤ x.toNat := by
  unfold Lib.encodeRune Lib.encodeRuneZ
  rw [if_neg (by omega)]
  have key : ∀ z : Int, 192 ≤ z → z ≤ 255 → 128 ≤ (z.toNat.toUInt8).toNat := by
    intro z h1 h2
    simp [Nat.toUInt8]
    omega
  split
  · exact ⟨_, _, rfl, key _ (by omega) (by omega)⟩
  · split
    · exact ⟨_, _, rfl, key _ (by omega) (by omega)⟩
    · split
      · exact ⟨_, _, rfl, key _ (by omega) (by omega)⟩
      · exact ⟨_, _, rfl, key _ (by omega) (by omega)⟩
theorem mapD_low : ∀ (n : Nat) (l t : List UInt8), l.length ≤ n → (∀ b ∈ t, b.toNat < 128) → (Lib.mapD lowR l = t ↔ l.map lowB = t)
  | 0, l, t, hl, _ => by
    have : l = [] := List.length_eq_zero_iff.1 (by omega)
    subst this
    rw [Lib.mapD_nil]; rfl
  | n + 1, [], t, _, _ => by rw [Lib.mapD_nil]; rfl
  | n + 1, b :: l, t, hl, ht => by
    by_cases hb : b.toNat < 128
    · rw [Lib.mapD_step _ _ (by simp), Lib.decodeL_ascii b l hb]
      simp only
      have hp : 0 ≤ lowR (b.toNat : Int) := by unfold lowR; split <;> omega
      rw [if_pos hp, lowB_ascii hb, List.drop_succ_cons, List.drop_zero]
      cases t with
      | nil => simp
      | cons c t =>
        rw [List.singleton_append, List.map_cons, List.cons.injEq, List.cons.injEq, mapD_low n l t (by simpa using hl) (fun x hx => ht x (by simp [hx]))]
    · have h128 : 128 ≤ (Lib.decodeL (b :: l)).1 := by
        have := (decode_high (⟨(b :: l).toArray⟩ : ByteArray) 0 (by show 0 < (b :: l).toArray.size; simp) (by show 128 ≤ ((b :: l).toArray[0]).toNat; simp; omega)).1
        exact this
      have hlow : lowR ((Lib.decodeL (b :: l)).1 : Int) = (Lib.decodeL (b :: l)).1 := by unfold lowR; rw [if_neg (by omega)]
      obtain ⟨x, y, hx, hx2⟩ := high_rune (r := ((Lib.decodeL (b :: l)).1 : Int)) (by omega)
      rw [Lib.mapD_step _ _ (by simp), hlow, if_pos (by omega), hx]
      have hlb : lowB b = b := by unfold lowB; rw [if_neg (by omega)]
      rw [List.map_cons, hlb]
      cases t with
      | nil => simp
      | cons c t =>
        have hc := ht c (by simp)
        constructor
        · intro e
          rw [List.cons_append, List.cons.injEq] at e
          rw [e.1] at hx2
          omega
        · intro e
          rw [List.cons.injEq] at e
          rw [e.1] at hb
          omega
theorem js_eq (l : List UInt8) : (Lib.mapD lowR l == javascript) = decide (l.map lowB = javascript) := by
  rw [Bool.eq_iff_iff, beq_iff_eq, decide_eq_true_eq]
  exact mapD_low l.length l javascript (Nat.le_refl _) (by decide)
end Go.Proofs.Qw
namespace Go.Proofs.YtfoiaoopbkcpoaaDoor
open Go.RowKit
open Go.Proofs.Qw

end Go.Proofs.YtfoiaoopbkcpoaaDoor
