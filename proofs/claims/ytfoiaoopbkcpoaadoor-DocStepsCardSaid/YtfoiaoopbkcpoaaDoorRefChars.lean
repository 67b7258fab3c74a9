/- The walks of the reference's Class, May, Runes, Value, Target. -/
import Derived.Test.YtfoiaoopbkcpoaaDoorAttrWalk
import Derived.Test.YtfoiaoopbkcpoaaDoorOwn
import Derived.Laws.Cover4
import Derived.Lib.MapLaws
namespace Go.Proofs.Qw
open Go.RowKit Go.Proofs.YtfoiaoopbkcpoaaDoor

theorem encode_eq (r : Int) : (Utf8.encode r).data.toList = Lib.encodeRune r := by
  unfold Utf8.encode Lib.encodeRune Utf8.valid
  by_cases h0 : 0 ≤ r
  · obtain ⟨n, rfl⟩ := Int.eq_ofNat_of_zero_le h0
    simp only [Int.toNat_natCast]
    by_cases hv : (n < 0xD800 ∨ (0xE000 ≤ n ∧ n ≤ 0x10FFFF))
    · have hv' : ((decide ((0 : Int) ≤ (n : Int)) && decide ((n : Int) < 0xD800)) || (decide ((0xE000 : Int) ≤ (n : Int)) && decide ((n : Int) ≤ 0x10FFFF))) = true := by
        rcases hv with h | h
        · simp; omega
        · simp; omega
      rw [hv']
      simp only [if_true]
      by_cases h1 : n < 0x80
      · rw [if_pos h1, Lib.encodeRuneZ_one (by omega) (by omega)]; simp
      · rw [if_neg h1]
        by_cases h2 : n < 0x800
        · rw [if_pos h2, Lib.encodeRuneZ_two (by omega) (by omega)]; simp only [List.map_cons, List.map_nil]; rw [show (192 + (n : Int) / 64).toNat = 192 + n / 64 by omega, show (128 + (n : Int) % 64).toNat = 128 + n % 64 by omega]
        · rw [if_neg h2]
          by_cases h3 : n < 0x10000
          · rw [if_pos h3, Lib.encodeRuneZ_three (by omega)]; simp only [List.map_cons, List.map_nil]; rw [show (224 + (n : Int) / 4096).toNat = 224 + n / 4096 by omega, show (128 + (n : Int) / 64 % 64).toNat = 128 + n / 64 % 64 by omega, show (128 + (n : Int) % 64).toNat = 128 + n % 64 by omega]
          · rw [if_neg h3, Lib.encodeRuneZ_four (by omega) (by omega)]; simp only [List.map_cons, List.map_nil]; rw [show (240 + (n : Int) / 262144).toNat = 240 + n / 262144 by omega, show (128 + (n : Int) / 4096 % 64).toNat = 128 + n / 4096 % 64 by omega, show (128 + (n : Int) / 64 % 64).toNat = 128 + n / 64 % 64 by omega, show (128 + (n : Int) % 64).toNat = 128 + n % 64 by omega]
    · have hv' : ((decide ((0 : Int) ≤ (n : Int)) && decide ((n : Int) < 0xD800)) || (decide ((0xE000 : Int) ≤ (n : Int)) && decide ((n : Int) ≤ 0x10FFFF))) = false := by
        simp; omega
      have e : Lib.encodeRuneZ (n : Int) = [239, 191, 189] := by
        unfold Lib.encodeRuneZ
        rw [if_neg (by omega), if_neg (by omega), if_neg (by omega), if_neg (by omega)]
      rw [hv', e]
      simp only [Bool.false_eq_true, if_false]
      decide
  · have hv' : ((decide ((0 : Int) ≤ r) && decide (r < 0xD800)) || (decide ((0xE000 : Int) ≤ r) && decide (r ≤ 0x10FFFF))) = false := by
      simp; omega
    have e : Lib.encodeRuneZ r = [239, 191, 189] := by
      unfold Lib.encodeRuneZ
      rw [if_neg (by omega), if_neg (by omega), if_neg (by omega), if_neg (by omega)]
    rw [hv', e]
    simp only [Bool.false_eq_true, if_false]
    decide
theorem foldl_bytes (ns : List Int) : ∀ s : ByteArray, (ns.foldl (fun r n => r ++ Utf8.encode n) s).data.toList = s.data.toList ++ ns.flatMap Lib.encodeRune := by
  induction ns with
  | nil => intro s; simp
  | cons n ns ih =>
    intro s
    rw [List.foldl_cons, ih, ByteArray.data_append, Array.toList_append, encode_eq, List.flatMap_cons, List.append_assoc]
theorem runesBytes_eq (ns : List Int) : (runesBytes ns).data.toList = ns.flatMap Lib.encodeRune := by
  unfold runesBytes
  rw [foldl_bytes]
  rfl

def runesL : Nat → List UInt8 → List Int
  | 0, _ => []
  | f + 1, l => if l = [] then [] else ((Lib.decodeL l).1 : Int) :: runesL f (l.drop (Lib.decodeL l).2)
theorem get_drop (s : ByteArray) (pos k : Nat) : (⟨(s.data.toList.drop pos).toArray⟩ : ByteArray).get! k = s.get! (pos + k) := by
  show ((s.data.toList.drop pos).toArray)[k]! = s.data[pos + k]!
  simp [Array.getElem!_eq_getD, Array.getD_eq_getD_getElem?]
theorem decode_drop (s : ByteArray) (pos : Nat) (h : pos < s.size) : Utf8.decode s pos = Lib.decodeL (s.data.toList.drop pos) := by
  unfold Lib.decodeL Utf8.decode
  simp only [get_drop, Nat.zero_add]
  have e : ∀ k, decide (k < (⟨(s.data.toList.drop pos).toArray⟩ : ByteArray).size) = decide (pos + k < s.size) := fun k => by
    rw [decide_eq_decide]
    show k < ((s.data.toList.drop pos).toArray).size ↔ _
    simp
    have hz : s.size = s.data.size := rfl
    omega
  simp only [e]
theorem runesGo_eq (s : ByteArray) : ∀ (f pos : Nat), runesGo s f pos = runesL f (s.data.toList.drop pos)
  | 0, _ => rfl
  | f + 1, pos => by
    by_cases h : pos < s.size
    · have hne : s.data.toList.drop pos ≠ [] := by
        intro e
        have := List.drop_eq_nil_iff.1 e
        rw [Array.length_toList] at this
        exact absurd h (Nat.not_lt.2 this)
      rw [runesGo_step h, runesL, if_neg hne, runesGo_eq s f, decode_drop s pos h, List.drop_drop]
    · rw [runesGo_end h, runesL, if_pos (List.drop_eq_nil_iff.2 (by rw [Array.length_toList]; exact Nat.not_lt.1 h))]
theorem runesL_back : ∀ (f : Nat) (l : List UInt8), l.length ≤ f → ((runesL f l).flatMap Lib.encodeRune = l ↔ Lib.validGoD f l = true) ∧ l.length ≤ ((runesL f l).flatMap Lib.encodeRune).length
  | 0, l, h => by
    have : l = [] := List.length_eq_zero_iff.1 (by omega)
    subst this
    simp [runesL, Lib.validGoD]
  | f + 1, l, h => by
    by_cases hl : l = []
    · subst hl
      simp [runesL, Lib.validGoD]
    · have hw := Lib.decodeL_width l
      have hle := Lib.decodeL_le l hl
      obtain ⟨ih1, ih2⟩ := runesL_back f (l.drop (Lib.decodeL l).2) (by rw [List.length_drop]; omega)
      rw [runesL, if_neg hl, Lib.validGoD, if_neg hl, List.flatMap_cons]
      by_cases hv : (Lib.decodeL l).1 = 65533 ∧ (Lib.decodeL l).2 = 1
      · rw [if_pos hv, hv.1]
        rw [hv.2] at ih2 ⊢
        have h3 : (Lib.encodeRune ((65533 : Nat) : Int)).length = 3 := by decide
        rw [List.length_drop] at ih2
        refine ⟨⟨fun e => ?_, fun e => (by cases e)⟩, by rw [List.length_append, h3]; omega⟩
        have e2 := congrArg List.length e
        rw [List.length_append, h3] at e2
        omega
      · rw [if_neg hv, Lib.encode_decode l hl hv]
        constructor
        · rw [← ih1]
          constructor
          · intro e
            conv at e => rhs; rw [← List.take_append_drop (Lib.decodeL l).2 l]
            exact List.append_cancel_left e
          · intro e
            rw [e, List.take_append_drop]
        · rw [List.length_append, List.length_take]
          rw [List.length_drop] at ih2
          omega
theorem runesB_back (s : ByteArray) : (runesB s).flatMap Lib.encodeRune = s.data.toList ↔ Lib.validD s.data.toList = true := by
  unfold runesB Lib.validD
  rw [runesGo_eq, List.drop_zero]
  have hs : s.size = s.data.toList.length := by rw [Array.length_toList]; rfl
  rw [hs]
  exact (runesL_back _ _ (Nat.le_refl _)).1
theorem runesFrom_eq (s : ByteArray) : ∀ (f pos : Nat) (acc : Array Value), Conv.runesFrom s f pos acc = acc ++ ((runesGo s f pos).map (Value.int .i32)).toArray
  | 0, _, acc => by simp [Conv.runesFrom, runesGo]
  | f + 1, pos, acc => by
    by_cases h : pos < s.size
    · rw [Conv.runesFrom, runesGo, if_pos h, if_pos h]
      show Conv.runesFrom s f (pos + (Utf8.decode s pos).2) (acc.push (.int .i32 (Int.ofNat (Utf8.decode s pos).1))) = _
      rw [runesFrom_eq s f]
      simp
    · rw [Conv.runesFrom, runesGo, if_neg h, if_neg h]
      simp
end Go.Proofs.Qw
namespace Go.Proofs.YtfoiaoopbkcpoaaDoor
open Go.RowKit
open Go.Proofs.Qw

abbrev RunesR := SliceR 21 1 (rdOf encRune)
end Go.Proofs.YtfoiaoopbkcpoaaDoor
