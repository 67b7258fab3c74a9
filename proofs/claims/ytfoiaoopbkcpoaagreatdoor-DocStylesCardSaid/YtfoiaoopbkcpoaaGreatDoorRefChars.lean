/- The walks of the reference's Class, May, Runes, Value, Target. -/
import Derived.Test.YtfoiaoopbkcpoaaGreatDoorAttrWalk
import Derived.Test.YtfoiaoopbkcpoaaGreatDoorOwn
import Derived.Laws.Cover4
import Derived.Lib.MapLaws
namespace Go.Proofs.Qw
open Go.RowKit Go.Proofs.YtfoiaoopbkcpoaaGreatDoor

theorem encode_eq (r : Int) : (Utf8.encode r).data.toList = Lib.encodeRune r := by
  unfold Utf8.encode Lib.encodeRune Utf8.valid
  by_cases h0 : 0 ≤ r
  · obtain ⟨n, rfl⟩ := Int.eq_ofNat_of_zero_le h0
    simp only [Int.toNat_natCast]
    by_cases hv : (n < 0xD800 ∨ (0xE000 ≤ n ∧ n ≤ 0x10FFFF))
    · have hv' : ((decide ((0 : Int) ≤ (n : Int)) && decide ((n : Int) < 0xD800)) || (decide ((0xE000 : Int) ≤ (n : Int)) && decide ((n : Int) ≤ 0x10FFFF))) = true := by
        rcases hv with h | h
        · simp; omega
        · simp; omega
      rw [hv']
      simp only [if_true]
      by_cases h1 : n < 0x80
      · rw [if_pos h1, Lib.encodeRuneZ_one (by omega) (by omega)]; simp
      · rw [if_neg h1]
        by_cases h2 : n < 0x800
        · rw [if_pos h2, Lib.encodeRuneZ_two (by omega) (by omega)]; simp only [List.map_cons, List.map_nil]; rw [show (192 + (n : Int) / 64).toNat = 192 + n / 64 by omega, show (128 + (n : Int) % 64).toNat = 128 + n % 64 by omega]
        · rw [if_neg h2]
          by_cases h3 : n < 0x10000
          · rw [if_pos h3, Lib.encodeRuneZ_three (by omega)]; simp only [List.map_cons, List.map_nil]; rw [show (224 + (n : Int) / 4096).toNat = 224 + n / 4096 by omega, show (128 + (n : Int) / 64 % 64).toNat = 128 + n / 64 % 64 by omega, show (128 + (n : Int) % 64).toNat = 128 + n % 64 by omega]
          · rw [if_neg h3, Lib.encodeRuneZ_four (by omega) (by omega)]; simp only [List.map_cons, List.map_nil]; rw [show (240 + (n : Int) / 262144).toNat = 240 + n / 262144 by omega, show (128 + (n : Int) / 4096 % 64).toNat = 128 + n / 4096 % 64 by omega, show (128 + (n : Int) / 64 % 64).toNat = 128 + n / 64 % 64 by omega, show (128 + (n : Int) % 64).toNat = 128 + n % 64 by omega]
    · have hv' : ((decide ((0 : Int) ≤ (n : Int)) && decide ((n : Int) < 0xD800)) || (decide ((0xE000 : Int) ≤ (n : Int)) && decide ((n : Int) ≤ 0x10FFFF))) = false := by
        simp; omega
      have e : Lib.encodeRuneZ (n : Int) = [239, 191, 189] := by
        unfold Lib.encodeRuneZ
        rw [if_neg (by omega), if_neg (by omega), if_neg (by omega), if_neg (by omega)]
      rw [hv', e]
      simp only [Bool.false_eq_true, if_false]
      decide
  · have hv' : ((decide ((0 : Int) ≤ r) && decide (r < 0xD800)) || (decide ((0xE000 : Int) ≤ r) && decide (r ≤ 0x10FFFF))) = false := by
      simp; omega
    have e : Lib.encodeRuneZ r = [239, 191, 189] := by
      unfold Lib.encodeRuneZ
      rw [if_neg (by omega), if_neg (by omega), if_neg (by omega), if_neg (by omega)]
    rw [hv', e]
    simp only [Bool.false_eq_true, if_false]
    decide
theorem foldl_bytes (ns : List Int) : ∀ s : ByteArray, (ns.foldl (fun r n => r ++ Utf8.encode n) s).data.toList = s.data.toList ++ ns.flatMap Lib.encodeRune := by
  induction ns with
  | nil => intro s; simp
  | cons n ns ih =>
    intro s
    rw [List.foldl_cons, ih, ByteArray.data_append, Array.toList_append, encode_eq, List.flatMap_cons, List.append_assoc]
theorem runesBytes_eq (ns : List Int) : (runesBytes ns).data.toList = ns.flatMap Lib.encodeRune := by
  unfold runesBytes
  rw [foldl_bytes]
  rfl

def runesL : Nat → List UInt8 → List Int
  | 0, _ => []
  | f + 1, l => if l = [] then [] else ((Lib.decodeL l).1 : Int) :: runesL f (l.drop (Lib.decodeL l).2)
theorem get_drop (s : ByteArray) (pos k : Nat) : (⟨(s.data.toList.drop pos).toArray⟩ : ByteArray).get! k = s.get! (pos + k) := by
  show ((s.data.toList.drop pos).toArray)[k]! = s.data[pos + k]!
  simp [Array.getElem!_eq_getD, Array.getD_eq_getD_getElem?]
theorem decode_drop (s : ByteArray) (pos : Nat) (h : pos < s.size) : Utf8.decode s pos = Lib.decodeL (s.data.toList.drop pos) := by
  unfold Lib.decodeL Utf8.decode
  simp only [get_drop, Nat.zero_add]
  have e : ∀ k, decide (k < (⟨(s.data.toList.drop pos).toArray⟩ : ByteArray).size) = decide (pos + k < s.size) := fun k => by
    rw [decide_eq_decide]
    show k < ((s.data.toList.drop pos).toArray).size ↔ _
    simp
    have hz : s.size = s.data.size := rfl
    omega
  simp only [e]
theorem runesGo_eq (s : ByteArray) : ∀ (f pos : Nat), runesGo s f pos = runesL f (s.data.toList.drop pos)
  | 0, _ => rfl
  | f + 1, pos => by
    by_cases h : pos < s.size
    · have hne : s.data.toList.drop pos ≠ [] := by
        intro e
        have := List.drop_eq_nil_iff.1 e
        rw [Array.length_toList] at this
        exact absurd h (Nat.not_lt.2 this)
      rw [runesGo_step h, runesL, if_neg hne, runesGo_eq s f, decode_drop s pos h, List.drop_drop]
    · rw [runesGo_end h, runesL, if_pos (List.drop_eq_nil_iff.2 (by rw [Array.length_toList]; exact Nat.not_lt.1 h))]
theorem runesL_back : ∀ (f : Nat) (l : List UInt8), l.length ≤ f → ((runesL f l).flatMap Lib.encodeRune = l ↔ Lib.validGoD f l = true) ∧ l.length ≤ ((runesL f l).flatMap Lib.encodeRune).length
  | 0, l, h => by
    have : l = [] := List.length_eq_zero_iff.1 (by omega)
    subst this
    simp [runesL, Lib.validGoD]
  | f + 1, l, h => by
    by_cases hl : l = []
    · subst hl
      simp [runesL, Lib.validGoD]
    · have hw := Lib.decodeL_width l
      have hle := Lib.decodeL_le l hl
      obtain ⟨ih1, ih2⟩ := runesL_back f (l.drop (Lib.decodeL l).2) (by rw [List.length_drop]; omega)
      rw [runesL, if_neg hl, Lib.validGoD, if_neg hl, List.flatMap_cons]
      by_cases hv : (Lib.decodeL l).1 = 65533 ∧ (Lib.decodeL l).2 = 1
      · rw [if_pos hv, hv.1]
        rw [hv.2] at ih2 ⊢
        have h3 : (Lib.encodeRune ((65533 : Nat) : Int)).length = 3 := by decide
        rw [List.length_drop] at ih2
        refine ⟨⟨fun e => ?_, fun e => (by cases e)⟩, by rw [List.length_append, h3]; omega⟩
        have e2 := congrArg List.length e
        rw [List.length_append, h3] at e2
        omega
      · rw [if_neg hv, Lib.encode_decode l hl hv]
        constructor
        · rw [← ih1]
          constructor
          · intro e
            conv at e => rhs; rw [← List.take_append_drop (Lib.decodeL l).2 l]
            exact List.append_cancel_left e
          · intro e
            rw [e, List.take_append_drop]
        · rw [List.length_append, List.length_take]
          rw [List.length_drop] at ih2
          omega
theorem runesB_back (s : ByteArray) : (runesB s).flatMap Lib.encodeRune = s.data.toList ↔ Lib.validD s.data.toList = true := by
  unfold runesB Lib.validD
  rw [runesGo_eq, List.drop_zero]
  have hs : s.size = s.data.toList.length := by rw [Array.length_toList]; rfl
  rw [hs]
  exact (runesL_back _ _ (Nat.le_refl _)).1
theorem runesFrom_eq (s : ByteArray) : ∀ (f pos : Nat) (acc : Array Value), Conv.runesFrom s f pos acc = acc ++ ((runesGo s f pos).map (Value.int .i32)).toArray
  | 0, _, acc => by simp [Conv.runesFrom, runesGo]
  | f + 1, pos, acc => by
    by_cases h : pos < s.size
    · rw [Conv.runesFrom, runesGo, if_pos h, if_pos h]
      show Conv.runesFrom s f (pos + (Utf8.decode s pos).2) (acc.push (.int .i32 (Int.ofNat (Utf8.decode s pos).1))) = _
      rw [runesFrom_eq s f]
      simp
    · rw [Conv.runesFrom, runesGo, if_neg h, if_neg h]
      simp
end Go.Proofs.Qw
namespace Go.Proofs.YtfoiaoopbkcpoaaGreatDoor
open Go.RowKit
open Go.Proofs.Qw

set_option maxHeartbeats 2000000 in
theorem refClass_any (c : Int) (w : World) :
    Calls Tryz.prog 117 #[.int .i32 c] w fun e w' => e = .returned (.int .i64 (classF c)) ∧ w' = w := by
  go_enter Tryz.func117, Tryz.ntmps117
  go_wp2_with fail
  all_goals
    go_ret
    refine ⟨?_, rfl⟩
    refine congrArg Ending.returned (int_eq ?_)
    (try simp only [beq_iff_eq, beq_eq_false_iff_ne, bne_iff_ne, bne_eq_false_iff_eq, ne_eq] at *)
    unfold classF Lib.validRune
    simp only [decide_eq_false_iff_not]
    (repeat' split) <;> first | rfl | omega | (simp_all; done) | (simp_all; omega)
theorem refCharMay_any (c : Int) (w : World) :
    Calls Tryz.prog 87 #[.int .i32 c] w fun e w' => e = .returned (.bool (mayR c)) ∧ w' = w := by
  go_enter Tryz.func87, Tryz.ntmps87
  go_wp2_with (go_at_call 117; refine (refClass_any c w).mono ?_; rintro e w' ⟨rfl, rfl⟩)
  go_ret
  exact ⟨rfl, rfl⟩

abbrev RunesR := SliceR 21 1 (rdOf encRune)
theorem refRunes_any (s : ByteArray) (w : World) (hs : s.size ≤ 10000000) :
    Calls Tryz.prog 152 #[.string s] w fun e w' => ∃ v, e = .returned v ∧ RunesR true w' (fun b => w.heap.size ≤ b) v (runesB s) ∧ Below w.heap.size w w' := by
  have hz := size_runesFrom s s.size 0 #[]
  have hr := run_runes_of_string w 9 149 21 s Tryz.underlying9 Tryz.underlying149 Tryz.underlying21 (by simp at hz; omega)
  have hge := grownCap_ge w (Conv.runesFrom s s.size 0 #[]).size 0 21
  have hle := grownCap_le_maxLen w (Conv.runesFrom s s.size 0 #[]).size 0 21 (by unfold maxLen; simp at hz; omega)
  have he : Conv.runesFrom s s.size 0 #[] = ((runesB s).map (Value.int .i32)).toArray := by rw [runesFrom_eq]; simp [runesB]
  rw [he] at hr hge hle
  generalize hG : grownCap w (((runesB s).map (Value.int .i32)).toArray).size 0 21 = G at *
  simp only [List.size_toArray, List.length_map] at hr hge hle
  have HG := Lib.hid (And.intro hge hle)
  clear hz he hge hle hG
  go_enter Tryz.func152, Tryz.ntmps152
  go_wp2_with fail
  go_ret
  refine ⟨_, rfl, ⟨_, G, rfl, HG.out.1, HG.out.2, .inr ⟨w.heap.size, 0, rfl, Nat.le_refl _, by simp, fun _ => ⟨_, heap_new _ _ rfl, ?_⟩, fun i x hx => ⟨_, rfl, rfl, fun j u hu => ?_⟩⟩⟩, by (repeat' (first | (with_reducible exact Below.refl _ _) | (with_reducible assumption) | (with_reducible refine Below.alloc ?_ ?_ _) | (with_reducible refine Below.drew ?_) | (with_reducible refine drewN_below ?_) | (with_reducible refine Below.setCell ?_ ?_ _) | go_size))⟩
  · have := HG.out.1
    simp
    omega
  · have hi := (List.getElem?_eq_some_iff.1 hx).1
    have hj : j = 0 := by
      have := (List.getElem?_eq_some_iff.1 hu).1
      simp [encRune] at this
      omega
    subst hj
    cases hu
    rw [World.cell?_drew, cell_of_heap (heap_new _ _ rfl)]
    rw [Array.getElem?_append_left (by simp; omega)]
    simp [hx]
end Go.Proofs.YtfoiaoopbkcpoaaGreatDoor
