/- The walks of package attrs. -/
import Derived.Test.YtfoiaoopbkcpoaaGreatDoorCharWalk
import Derived.Handy
import Derived.Lib.OthersKept
import Derived.Deep.RegionHeld3
namespace Go.Proofs.YtfoiaoopbkcpoaaGreatDoor
open Go.RowKit
open Go.Proofs.Qw

/-- Go's own variables, and the tables of UTF-8. -/
def EnvT (w : World) : Prop := Env w ∧ Lib.Utf8Tabs 0 1 w
theorem EnvT.below {w w' : World} (h : EnvT w) (hb : Below w.heap.size w w') : EnvT w' := ⟨h.1.below hb, Utf8Tabs_below h.2 hb⟩

theorem runesGo_step {s : ByteArray} {f pos : Nat} (h : pos < s.size) : runesGo s (f + 1) pos = ((Utf8.decode s pos).1 : Int) :: runesGo s f (pos + (Utf8.decode s pos).2) := by rw [runesGo, if_pos h]
theorem runesGo_end {s : ByteArray} {f pos : Nat} (h : ¬ pos < s.size) : runesGo s f pos = [] := by
  cases f with
  | zero => rfl
  | succ f => rw [runesGo, if_neg h]
theorem width_pos (s : ByteArray) (pos : Nat) (h : pos < s.size) : 0 < (Utf8.decode s pos).2 := by
  by_cases ha : (s[pos]'h).toNat < 128
  · rw [decode_ascii s pos h ha]; exact Nat.le_refl _
  · exact (decode_high s pos h (by omega)).2

set_option maxHeartbeats 1000000 in
theorem value_any (s : ByteArray) (w : World) (he : EnvT w) (hs : s.size ≤ 1000000) :
    Calls Tryz.prog 113 #[.string s] w fun e w' => e = .returned (.bool (valueB s)) ∧ Below w.heap.size w w' := by
  go_enter Tryz.func113, Tryz.ntmps113
  go_wp2_with fail
  have HV : Hid (∀ b, (runesB s).all mayR = b → valueB s = (b && (decide (s.size ≤ 200) && Lib.validD s.data.toList))) := Lib.hid (fun b h => by rw [← h]; rfl)
  go_loopw [] (fun wr => ∃ (pos fuel : Nat), wr.heap[w.heap.size]? = some (.stringIter s pos) ∧ Below w.heap.size w wr ∧ (runesB s).all mayR = (runesGo s fuel pos).all mayR ∧ s.size ≤ pos + fuel) (fun wr => s.size - wr.iterPos w.heap.size)
  case atStart =>
    refine ⟨0, s.size, ?_, (Below.refl _ w).alloc (Nat.le_refl _) _, rfl, by omega⟩
    exact World.iter_heap w s 0
  case round =>
    obtain ⟨pos, fuel, hit, hbw, hacc, hfu⟩ := hrel
    have hsz : w.heap.size < wr.heap.size := (Array.getElem?_eq_some_iff.1 hit).1
    have HA := Lib.hid hacc
    clear hacc
    by_cases hp : pos < s.size
    · have hnx : ∀ ty, (Instr.next (.pointer (some ⟨w.heap.size, 0, none⟩)) true ty).run Tryz.prog wr = _ := fun ty => Lib.run_next_any_at wr w.heap.size s pos ty hit hp
      have hwd := width_pos s pos hp
      have hit2 := Lib.iterAt_heap wr w.heap.size s pos (pos + (Utf8.decode s pos).2) hit
      have hbw2 := Lib.below_iterAt hbw (k := w.heap.size) (by omega) s (pos + (Utf8.decode s pos).2)
      obtain ⟨f, rfl⟩ : ∃ f, fuel = f + 1 := ⟨fuel - 1, by omega⟩
      obtain ⟨r, hr⟩ : ∃ r, mayR ((Utf8.decode s pos).1 : Int) = r := ⟨_, rfl⟩
      have HR : Hid ((runesB s).all mayR = (r && (runesGo s f (pos + (Utf8.decode s pos).2)).all mayR)) := Lib.hid (by rw [HA.out, runesGo_step hp, List.all_cons, hr])
      have HC : Hid (∀ W, Calls Tryz.prog 129 #[.int .i32 (Utf8.decode s pos).1] W fun e w' => e = .returned (.bool r) ∧ w' = W) := Lib.hid (fun W => hr ▸ charMay_any _ W)
      clear hr
      go_wp2_with (go_at_call 129; refine (HC.out _).mono ?_; rintro e W1 ⟨rfl, rfl⟩; cases r)
      · go_ret
        exact ⟨by rw [HV.out _ HR.out]; rfl, hbw2⟩
      · go_roundw
        case rel => exact ⟨pos + (Utf8.decode s pos).2, f, hit2, hbw2, HR.out, by omega⟩
        case measure =>
          have e1 : wr.iterPos w.heap.size = pos := by unfold World.iterPos; rw [hit]
          have e2 : (wr.iterAt w.heap.size s (pos + (Utf8.decode s pos).2)).iterPos w.heap.size = pos + (Utf8.decode s pos).2 := by unfold World.iterPos; rw [hit2]
          rw [e1, e2]
          omega
    · have hnx : ∀ ty, (Instr.next (.pointer (some ⟨w.heap.size, 0, none⟩)) true ty).run Tryz.prog wr = _ := fun ty => Lib.run_next_end_at wr w.heap.size s pos ty hit hp
      have HT : Hid (valueB s = (true && (decide (s.size ≤ 200) && Lib.validD s.data.toList))) := Lib.hid (HV.out _ (HA.out.trans (by rw [runesGo_end hp]; rfl)))
      have heW := he.below hbw
      go_wp2_with (go_at_call 140; refine (Tryz.utf8_ValidString s _ (by omega) heW.2).mono ?_; rintro e W1 ⟨rfl, hb1⟩)
      · go_ret
        refine ⟨?_, hbw.trans (hb1.mono hbw.size)⟩
        rw [HT.out, decide_eq_true (by omega)]
        rfl
      · go_ret
        refine ⟨?_, hbw⟩
        rw [HT.out, decide_eq_false (by omega)]
        rfl

theorem lowR_any (c : Int) (w : World) (h1 : 0 ≤ c) (h2 : c ≤ 1114111) :
    Calls Tryz.prog 112 #[.int .i32 c] w fun e w' => e = .returned (.int .i32 (lowR c)) ∧ w' = w := by
  unfold lowR
  go_enter Tryz.func112, Tryz.ntmps112
  go_wp2_with fail
  all_goals
    go_ret
    refine ⟨?_, rfl⟩
    refine congrArg Ending.returned (int_eq ?_)
  all_goals first
    | rfl
    | (rw [if_pos ⟨by assumption, by assumption⟩]; rfl)
    | (rw [if_neg (by omega)]; rfl)

theorem byte_head (s : ByteArray) (h : 0 < s.size) : s.data.toList.head? = some s[0] := by
  rw [List.head?_eq_getElem?, Array.getElem?_toList, Array.getElem?_eq_getElem h]; rfl
theorem byte_last (s : ByteArray) (h : 0 < s.size) : s.data.toList.getLast? = some s[s.size - 1] := by
  rw [List.getLast?_eq_getElem?, Array.length_toList, Array.getElem?_toList, Array.getElem?_eq_getElem (by show s.size - 1 < s.size; omega)]; rfl
theorem byte_ne {o : Option UInt8} {b : UInt8} (h : o = some b) : decide (o ≠ some 32) = ((b.toNat : Int) != 32) := by
  subst h
  by_cases e : b = 32
  · subst e; rfl
  · have e2 : ¬ (b.toNat : Int) = 32 := fun h => e (UInt8.toNat_inj.1 (by simpa using Int.ofNat.inj h))
    simp [e, e2]
theorem lowR_grows (w : World) : MapGrows Tryz.prog 112 #[] lowR w := fun W x hx _ => (lowR_any (x : Int) W (by omega) (by omega)).mono fun _ _ ⟨h1, h2⟩ => ⟨h1, h2 ▸ Below.refl _ _⟩
theorem lowR_bound : ∀ x : Nat, x ≤ 1114111 → -2147483648 ≤ lowR x ∧ lowR x ≤ 2147483647 := by
  intro x h
  unfold lowR
  split <;> omega

set_option maxHeartbeats 1000000 in
theorem target_any (s : ByteArray) (w : World) (he : EnvT w) (hs : s.size ≤ 1000000) :
    Calls Tryz.prog 76 #[.string s] w fun e w' => e = .returned (.bool (targetF s.data.toList)) ∧ Below w.heap.size w w' := by
  obtain ⟨js, hjs⟩ : ∃ x, Lib.mapD lowR (Lib.cut s.data.toList [58]).1 = x := ⟨_, rfl⟩
  obtain ⟨cut, hcut⟩ : ∃ x, Lib.cut s.data.toList [58] = x := ⟨_, rfl⟩
  obtain ⟨vb, hvb⟩ : ∃ x, valueB s = x := ⟨_, rfl⟩
  have HT : Hid (targetF s.data.toList = (vb && (decide (s.data.toList ≠ []) && (decide (s.data.toList.head? ≠ some 32) && (decide (s.data.toList.getLast? ≠ some 32) && !(js == javascript)))))) := Lib.hid (by
    unfold targetF valueF
    rw [hjs, ← hvb])
  have hcl : cut.1.length ≤ s.size := by
    have hl : s.data.toList.length = s.size := Array.length_toList
    rw [← hcut]
    unfold Lib.cut
    split
    · simp; omega
    · simp
  rw [hcut] at hjs
  have HC1 : Hid (∀ W, EnvT W → Calls Tryz.prog 110 #[.string s, .string ⟨#[58]⟩] W fun e w' => e = .returned (.tuple #[.string ⟨cut.1.toArray⟩, .string ⟨cut.2.1.toArray⟩, .bool cut.2.2]) ∧ Below W.heap.size W w') := Lib.hid fun W hW => (Tryz.strings_Cut_shaped s ⟨#[58]⟩ W hW.1 (by omega)).mono fun _ _ ⟨h1, n, h2⟩ => ⟨by rw [h1, ← hcut], h2 ▸ below_drewNm W n⟩
  have HC2 : Hid (∀ W, EnvT W → Calls Tryz.prog 111 #[.func (.func 112) #[] #[], .string ⟨cut.1.toArray⟩] W fun e w' => e = .returned (.string ⟨js.toArray⟩) ∧ Below W.heap.size W w') := Lib.hid fun W hW => by
    have := Tryz.strings_Map_grows 112 #[] (enters_of Tryz.func112 (by kernel_rfl) rfl) lowR ⟨cut.1.toArray⟩ W (by show cut.1.toArray.size < _; simp; omega) (lowR_grows W) lowR_bound hW.2
    rw [← hjs]
    exact this
  have HC3 : Hid (∀ W, EnvT W → Calls Tryz.prog 113 #[.string s] W fun e w' => e = .returned (.bool vb) ∧ Below W.heap.size W w') := Lib.hid fun W hW => hvb ▸ value_any s W hW hs
  clear hjs hcut hvb
  go_enter Tryz.func76, Tryz.ntmps76
  go_wp2_with (go_at_call 110; refine (HC1.out _ he).mono ?_; rintro e w1 ⟨rfl, hb1⟩; have he1 := he.below hb1)
  go_wp2_with (go_at_call 111; refine (HC2.out _ he1).mono ?_; rintro e w2 ⟨rfl, hb2⟩; have he2 := he1.below hb2)
  have hb12 := hb1.trans (hb2.mono hb1.size)
  clear HC1 HC2 hb1 hb2 he he1
  rcases Nat.eq_zero_or_pos s.size with hz | hz
  · have hnil : s.data.toList = [] := List.length_eq_zero_iff.1 (by rw [Array.length_toList]; exact hz)
    have HF : Hid (targetF s.data.toList = false) := Lib.hid (by rw [HT.out, hnil]; simp)
    have hne2 : s.toList.isEmpty = true := by rw [toList_eq, hnil]; rfl
    have hcon : s.size - 1 < s.size → False := by omega
    clear HT hnil
    go_wp2_with (go_at_call 113; refine (HC3.out _ he2).mono ?_; rintro e w3 ⟨rfl, hb3⟩; cases vb)
    all_goals
      go_ret
      refine ⟨?_, hb12.trans (hb3.mono hb12.size)⟩
      rw [HF.out]
      refine congrArg Ending.returned (congrArg Value.bool ?_)
    all_goals simp_all
  · have hne : s.data.toList ≠ [] := by
      intro e
      have h2 : s.data.toList.length = s.size := Array.length_toList
      rw [e, List.length_nil] at h2
      omega
    have h0 := byte_ne (byte_head s hz)
    have h1 := byte_ne (byte_last s hz)
    have HN : Hid (targetF s.data.toList = (vb && (((s[0].toNat : Int) != 32) && (((s[s.size - 1].toNat : Int) != 32) && !(js == javascript))))) := Lib.hid (by
      rw [HT.out, h0, h1, decide_eq_true hne, Bool.true_and])
    have hne2 : s.toList.isEmpty = false := by rw [toList_eq]; simpa using hne
    clear h0 h1 HT hne
    unfold javascript at HN
    go_wp2_with (go_at_call 113; refine (HC3.out _ he2).mono ?_; rintro e w3 ⟨rfl, hb3⟩; cases vb)
    all_goals
      go_ret
      refine ⟨?_, hb12.trans (hb3.mono hb12.size)⟩
      rw [HN.out]
    all_goals refine congrArg Ending.returned (congrArg Value.bool ?_)
    all_goals first | (simp_all; done) | (rw [Bool.true_and, Bool.and_assoc]) | (simp_all [Bool.and_assoc])
end Go.Proofs.YtfoiaoopbkcpoaaGreatDoor
