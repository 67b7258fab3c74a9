/- The walks of package css. -/
import Derived.Test.YtcpenjbacgjjeaaDoorEnv
import Derived.Test.YtcpenjbacgjjeaaDoorShelf
import Derived.Test.YtcpenjbacgjjeaaDoorCssPlain
namespace Go.Proofs.YtcpenjbacgjjeaaDoor
open Go.RowKit
open Go.Proofs.Qw

set_option maxHeartbeats 400000 in
theorem over_any (a b c : Int) (w : World) :
    Calls Tryd.prog 13 #[.int .i64 a, .int .i64 b, .int .i64 c] w fun e w' => e = .returned (.int .i64 (bits .or .i64 (bits .andNot .i64 a c) b)) ∧ w = w' := by
  go_enter Tryd.func13, Tryd.ntmps13
  go_wp2
  go_ret
  exact ⟨rfl, rfl⟩

set_option maxHeartbeats 400000 in
theorem words_any (s : ByteArray) (w : World) (he : Env w) (hs : s.size ≤ 20000) :
    Calls Tryd.prog 16 #[.string s] w fun e w' => e = .returned (.tuple #[.int .i64 (words s.data.toList).1, .bool (words s.data.toList).2]) ∧ Below w.heap.size w w' := by
  go_enter Tryd.func16, Tryd.ntmps16
  go_wp2_with (go_at_call 24; refine (Tryd.strings_Split_shaped s ⟨#[32]⟩ w he (by omega) (Nat.le_refl 1)).mono ?_; rintro e w' ⟨rfl, rfl⟩)
  have hlen := splitB_len 32 s
  have hc := countB_small 32 s
  have hW : words s.data.toList = wordsGo 0 false ((Lib.splitB ⟨#[32]⟩ 0 (Lib.countB s ⟨#[32]⟩) s).map (·.data.toList)) := by rw [splitB_one]; rfl
  generalize Lib.splitB ⟨#[32]⟩ 0 (Lib.countB s ⟨#[32]⟩) s = xs at *
  generalize Lib.countB s ⟨#[32]⟩ = n at *
  have HL := Lib.hid hlen
  have HW := Lib.hid hW
  clear hlen hW
  have HC : Hid (∀ k x, xs[k]? = some x → (w.alloc (Obj.cells (List.map Value.string xs).toArray 9)).cell? ⟨w.heap.size, k, none⟩ = some (.string x)) := Lib.hid fun k x hx => by
    rw [cell_new]; simp [hx]
  go_loop [4, 5, 11] (fun b s i => ∃ (k : Nat) (bb : Int) (ss : Bool), k ≤ n + 1 ∧ i = .int .i64 k ∧ b = .int .i64 bb ∧ s = .bool ss ∧ wordsGo 0 false (xs.map (·.data.toList)) = wordsGo bb ss ((xs.drop k).map (·.data.toList))) (fun _ _ i => n + 1 - (intOf i).toNat)
  case atStart => exact ⟨0, 0, false, by omega, rfl, rfl, rfl, rfl⟩
  case round =>
    obtain ⟨k, bb, ss, hk, rfl, rfl, rfl, hg⟩ := hrel
    have HG := Lib.hid hg
    clear hg
    by_cases hlt : k < n + 1
    · obtain ⟨x, hx, hd⟩ := getOf xs k (by rw [HL.out]; exact hlt)
      have hx := HC.out k x hx
      have HD := Lib.hid hd
      clear hd
      go_wp2
      · go_round
        case rel => exact ⟨k + 1, _, _, by omega, by go_num, rfl, rfl, by rw [HG.out, HD.out, List.map_cons, wordsGo1 (eq_of_beq ‹_›)]⟩
        case measure => simp [intOf]; omega
      · go_round
        case rel => exact ⟨k + 1, _, _, by omega, by go_num, rfl, rfl, by rw [HG.out, HD.out, List.map_cons, wordsGo2 (ne_of_beq ‹(x.toList == [117, 110, 100, 101, 114, 108, 105, 110, 101]) = false›) (eq_of_beq ‹_›)]⟩
        case measure => simp [intOf]; omega
      · go_round
        case rel => exact ⟨k + 1, _, _, by omega, by go_num, rfl, rfl, by rw [HG.out, HD.out, List.map_cons, wordsGo3 (ne_of_beq ‹(x.toList == [117, 110, 100, 101, 114, 108, 105, 110, 101]) = false›) (ne_of_beq ‹(x.toList == [108, 105, 110, 101, 45, 116, 104, 114, 111, 117, 103, 104]) = false›) (nil_of_empty ‹_›)]⟩
        case measure => simp [intOf]; omega
      · go_ret2
        refine ⟨?_, (Below.refl _ _).alloc (Nat.le_refl _) _⟩
        rw [HW.out, HG.out, HD.out, List.map_cons, wordsGo4 (ne_of_beq ‹(x.toList == [117, 110, 100, 101, 114, 108, 105, 110, 101]) = false›) (ne_of_beq ‹(x.toList == [108, 105, 110, 101, 45, 116, 104, 114, 111, 117, 103, 104]) = false›) (ne_of_empty ‹_›)]
        rfl
    · obtain rfl : k = n + 1 := by omega
      rw [List.drop_eq_nil_of_le (by rw [HL.out]; exact Nat.le_refl _)] at HG
      go_wp2
      go_ret2
      refine ⟨?_, (Below.refl _ _).alloc (Nat.le_refl _) _⟩
      rw [HW.out, HG.out]
      rfl

set_option maxHeartbeats 400000 in
theorem low_any (s : ByteArray) (w : World) (hs : s.size ≤ 20000) :
    Calls Tryd.prog 26 #[.string s] w fun e w' => e = .returned (.string ⟨(low s.data.toList).toArray⟩) ∧ Below w.heap.size w w' := by
  obtain ⟨c, w1, hcv, hb1, hz1, hr1, hc1⟩ := bytes_of w s
  have HR := Lib.hid hr1
  have HB := Lib.hid hb1
  have hl : s.data.toList.length = s.size := Array.length_toList
  have HS := Lib.hid hl
  clear hr1 hb1 hl
  generalize s.data.toList = l at *
  go_enter Tryd.func26, Tryd.ntmps26
  go_wp2_with fail
  clear hcv
  go_loopw [4, 5, 10] (fun _ _ i wr => ∃ k : Nat, k ≤ s.size ∧ i = .int .i64 k ∧ RowAt wr w.heap.size 0 (bv (low (l.take k) ++ l.drop k)) ∧ Below w.heap.size w wr) (fun _ _ i _ => s.size - (intOf i).toNat)
  case atStart => exact ⟨0, by omega, rfl, HR.out, HB.out⟩
  case round =>
    obtain ⟨k, hk, rfl, hr, hb⟩ := hrel
    by_cases hlt : k < s.size
    · obtain ⟨b, hx, hd⟩ := getOf l k (by rw [HS.out]; exact hlt)
      have hp : (low (l.take k) ++ l.drop k)[k]? = some b := by
        rw [List.getElem?_append_right (by simp [low]; omega)]
        simp [low, hx, Nat.min_eq_left (show k ≤ l.length by rw [HS.out]; omega)]
      obtain ⟨hc, hf⟩ := hr k _ (bv_get hp)
      rw [Nat.zero_add] at hc hf
      have HX := Lib.hid hx
      have HP := Lib.hid hp
      clear hx hp hd
      go_wp2
      · go_roundw
        case rel =>
          refine ⟨k + 1, by omega, by go_num, ?_, hb.setCell (Nat.le_refl _) _⟩
          rw [← low_step HX.out, ← bv_set, ← lowc_yes ‹_› ‹_›]
          have := hr.set (i := k) (by rw [bv_length]; exact (List.getElem?_eq_some_iff.1 HP.out).1) (.int .u8 ((b.toNat : Int) + 32))
          rwa [Nat.zero_add] at this
        case measure => simp [intOf]; omega
      · go_roundw
        case rel => exact ⟨k + 1, by omega, by go_num, by rw [← low_keep HX.out (lowc_no (by omega))]; exact hr, hb⟩
        case measure => simp [intOf]; omega
      · go_roundw
        case rel => exact ⟨k + 1, by omega, by go_num, by rw [← low_keep HX.out (lowc_no (by omega))]; exact hr, hb⟩
        case measure => simp [intOf]; omega
    · obtain rfl : k = s.size := by omega
      have e : low (l.take s.size) ++ l.drop s.size = low l := by rw [List.take_of_length_le (by rw [HS.out]; exact Nat.le_refl _), List.drop_eq_nil_of_le (by rw [HS.out]; exact Nat.le_refl _), List.append_nil]
      rw [e] at hr
      have hst := string_of (c := c) hr
      rw [low_length, HS.out] at hst
      clear e
      go_wp2
      go_ret
      exact ⟨rfl, hb⟩

attribute [local go_sem] Oper.semAt_some
/-- A declaration as the loop's two variables hold it. -/
abbrev Decl := { x : List UInt8 × List UInt8 // x.1.length ≤ 20000 ∧ x.2.length ≤ 20000 }
abbrev declEnc (x : Decl) : Array Value := #[.string ⟨x.1.1.toArray⟩, .string ⟨x.1.2.toArray⟩]

set_option maxRecDepth 200000 in
set_option maxHeartbeats 4000000 in
theorem decl1_in (n l Bs base : Nat) (s : ByteArray) (hs : s.size ≤ 20000) (J Jx : List Decl → World → Prop) (w0 W : World) (he : Env w0) (hb0 : Below w0.heap.size w0 W) (hJ : AbidesFrom W.heap.size J) (hbase : base ≤ W.heap.size)
    (hY : ∀ (pre : List Decl) (x : Decl) W, J pre W → pre.length < 40000 → YieldAt Fence.wide (n - 1) Tryd.prog l (declEnc x) W fun e W' =>
      (e = .returned (.bool true) ∧ J (pre ++ [x]) W' ∧ Kp w0.heap.size base W W') ∨ (e = .returned (.bool false) ∧ Jx (pre ++ [x]) W'))
    (hBs : W.cell? ⟨Bs, 0, none⟩ = some (.string s)) (h0 : J [] W) :
    CallsIn Fence.wide n Tryd.prog 23 #[.func (.yield l) #[] #[], .pointer (some ⟨Bs, 0, none⟩)] W fun e W' => (∃ v, e = .returned v) ∧
      ((∃ ys : List Decl, ys.map (·.1) = decls s.data.toList ∧ J ys W') ∨ (∃ pre, True ∧ Jx pre W')) := by
  refine callsIn_of_wp Tryd.func23 rfl trivial ?_ rfl
  simp only [Tryd.ntmps23, List.size_toArray, List.length_cons, List.length_nil, Nat.reduceAdd, Nat.reduceSub, Array.replicate_succ, Array.replicate_zero, List.push_toArray, List.append_toArray, List.nil_append, List.cons_append]
  have hwf : ∀ f, Fence.wide.fn f := fun _ => trivial
  have hwd : Fence.wide.depth = none := rfl
  have heW := he.below hb0
  gi_wp2_with (gi_at_call 24; refine (callsIn_wide.2 (Tryd.strings_Split_shaped s ⟨#[59]⟩ W heW (by omega) (Nat.le_refl 1))).mono ?_; rintro e w' ⟨rfl, rfl⟩)
  have hlen := splitB_len 59 s
  have hc := countB_small 59 s
  have hW : decls s.data.toList = ((Lib.splitB ⟨#[59]⟩ 0 (Lib.countB s ⟨#[59]⟩) s).map (·.data.toList)).filterMap declOf := by rw [splitB_one]; rfl
  have hle : ∀ (k : Nat) (x : ByteArray), (Lib.splitB ⟨#[59]⟩ 0 (Lib.countB s ⟨#[59]⟩) s)[k]? = some x → x.size ≤ 20000 := fun k x hx => by
    have h1 : x.data.toList ∈ splitL 59 s.data.toList := by
      rw [← splitB_one]
      exact List.mem_map.2 ⟨x, List.mem_of_getElem? hx, rfl⟩
    have := splitL_le _ _ _ h1
    simp only [Array.length_toList] at this
    exact Nat.le_trans this hs
  generalize Lib.splitB ⟨#[59]⟩ 0 (Lib.countB s ⟨#[59]⟩) s = xs at *
  generalize Lib.countB s ⟨#[59]⟩ = m at *
  have HL := Lib.hid hlen
  have HW := Lib.hid hW
  have HE := Lib.hid hle
  clear hlen hW hle
  have HB : Hid (Below W.heap.size W (W.alloc (Obj.cells (List.map Value.string xs).toArray 9))) := Lib.hid ((Below.refl _ _).alloc (Nat.le_refl _) _)
  have HC : Hid ((W.alloc (Obj.cells (List.map Value.string xs).toArray 9)).heap[W.heap.size]? = some (Obj.cells (List.map Value.string xs).toArray 9)) := Lib.hid (World.alloc_heap_new _ _)
  have HJ0 : Hid (J [] (W.alloc (Obj.cells (List.map Value.string xs).toArray 9))) := Lib.hid (abides_below hJ h0 HB.out)
  have HJA := Lib.hid hJ
  clear hJ h0 heW hBs
  generalize W.alloc (Obj.cells (List.map Value.string xs).toArray 9) = W1 at *
  gi_loopw [11] (fun i wr => ∃ (k : Nat) (pre : List Decl), k ≤ m + 1 ∧ pre.length ≤ k ∧ i = .int .i64 k ∧ pre.map (·.1) = ((xs.take k).map (·.data.toList)).filterMap declOf ∧ J pre wr ∧ Below w0.heap.size w0 wr ∧ W.heap.size < wr.heap.size ∧ wr.heap[W.heap.size]? = some (Obj.cells (List.map Value.string xs).toArray 9))
    (fun i _ => m + 1 - (intOf i).toNat)
  case atStart => exact ⟨0, [], by omega, Nat.le_refl _, rfl, rfl, HJ0.out, hb0.trans (HB.out.mono hb0.size), (Array.getElem?_eq_some_iff.1 HC.out).1, HC.out⟩
  case round =>
    obtain ⟨k, pre, hk, hpl, rfl, hpre, hJs, hb1, hz1, hh1⟩ := hrel
    have HP := Lib.hid hpre
    have HH := Lib.hid hh1
    clear hpre hh1
    by_cases hlt : k < m + 1
    · obtain ⟨x, hx, hd⟩ := getOf xs k (by rw [HL.out]; exact hlt)
      have hxc : wr.cell? ⟨W.heap.size, k, none⟩ = some (.string x) := by rw [cell_of_heap HH.out]; simp [hx]
      have hxs := HE.out k x hx
      have HX := Lib.hid hx
      clear hd hx
      have her := he.below hb1
      gi_wp2_with fail
      refine (callsIn_wide.2 (Tryd.strings_Cut_shaped x ⟨#[58]⟩ wr her (by omega))).mono ?_
      rintro e w' ⟨rfl, nd, rfl⟩
      have hwb : Below wr.heap.size wr (wr.drewN nd) := below_drewN (Below.refl _ _) nd
      have hD : declOf x.data.toList = if (Lib.cut x.data.toList [58]).2.2 = true then some (low (Lib.trimB (Lib.cut x.data.toList [58]).1 32), low (Lib.trimB (Lib.cut x.data.toList [58]).2.1 32)) else none := rfl
      have hcl : (Lib.cut x.data.toList [58]).1.length ≤ 20000 ∧ (Lib.cut x.data.toList [58]).2.1.length ≤ 20000 := by
        have := cut_le x.data.toList
        have h2 : x.data.toList.length = x.size := Array.length_toList
        omega
      generalize wr.drewN nd = w2 at *
      generalize Lib.cut x.data.toList [58] = ct at *
      obtain ⟨nm, vl, ok⟩ := ct
      have HD := Lib.hid hD
      have HWB := Lib.hid hwb
      clear hD hwb
      have HW2 : Hid (Below w0.heap.size w0 w2) := Lib.hid (below_from hb1 HWB.out)
      have hJ2 := abides_below (X := wr) (Y := w2) HJA.out hJs HWB.out
      have hh2 : Hid (w2.heap[W.heap.size]? = some (Obj.cells (List.map Value.string xs).toArray 9)) := Lib.hid ((HWB.out.block _ hz1).trans HH.out)
      have hz2 : W.heap.size < w2.heap.size := Nat.lt_of_lt_of_le hz1 HWB.out.size
      cases ok
      · gi_wp2_with fail
        go_roundw
        case rel => exact ⟨k + 1, pre, by omega, by omega, by go_num, by rw [fm_none HX.out (HD.out.trans (if_neg (by simp)))]; exact HP.out, hJ2, HW2.out, hz2, hh2.out⟩
        case measure => simp [intOf]; omega
      · gi_wp2_with fail
        refine (callsIn_wide.2 (Tryd.strings_Trim_one ⟨nm.toArray⟩ 32 (by decide) w2 (by simp [ByteArray.size]; omega))).mono ?_
        rintro e w3 ⟨rfl, h3⟩
        have hb3 := Lib.hid (below_or h3)
        clear h3
        gi_wp2_with fail
        refine (callsIn_wide.2 (low_any ⟨(Lib.trimB nm 32).toArray⟩ w3 ?hs3)).mono ?_
        case hs3 => have := trimB_le nm 32; simp [ByteArray.size]; omega
        rintro e w4 ⟨rfl, hb4⟩
        have HB4 := Lib.hid hb4
        clear hb4
        gi_wp2_with fail
        refine (callsIn_wide.2 (Tryd.strings_Trim_one ⟨vl.toArray⟩ 32 (by decide) w4 (by simp [ByteArray.size]; omega))).mono ?_
        rintro e w5 ⟨rfl, h5⟩
        have hb5 := Lib.hid (below_or h5)
        clear h5
        gi_wp2_with fail
        refine (callsIn_wide.2 (low_any ⟨(Lib.trimB vl 32).toArray⟩ w5 ?hs5)).mono ?_
        case hs5 => have := trimB_le vl 32; simp [ByteArray.size]; omega
        rintro e w6 ⟨rfl, hb6⟩
        have HB6 := Lib.hid hb6
        clear hb6
        have hb26 : Hid (Below w2.heap.size w2 w6) := Lib.hid (below_from hb3.out (below_from HB4.out (below_from hb5.out HB6.out)))
        have HW6 : Hid (Below w0.heap.size w0 w6) := Lib.hid (below_from HW2.out hb26.out)
        have hJ6 := abides_below HJA.out hJ2 hb26.out
        have hh6 : Hid (w6.heap[W.heap.size]? = some (Obj.cells (List.map Value.string xs).toArray 9)) := Lib.hid ((hb26.out.block _ hz2).trans hh2.out)
        have hz6 : W.heap.size < w6.heap.size := Nat.lt_of_lt_of_le hz2 hb26.out.size
        obtain ⟨fn, tmps, assign, body, hy, hR⟩ := hY pre ⟨(low (Lib.trimB nm 32), low (Lib.trimB vl 32)), by have := trimB_le vl 32; have := trimB_le nm 32; rw [low_length, low_length]; omega⟩ w6 hJ6 (by omega)
        dsimp only [declEnc] at hy
        gi_wp2_with fail
        refine hR.mono ?_
        rintro e w7 (⟨rfl, hJ7, hk7⟩ | ⟨rfl, hJx7⟩)
        · gi_wp2_with fail
          go_roundw
          case rel => exact ⟨k + 1, _, by omega, by simp; omega, by go_num, by rw [fm_some HX.out (HD.out.trans (if_pos trivial)), List.map_append, HP.out]; rfl, hJ7, HW6.out.trans hk7.below, Nat.lt_of_lt_of_le hz6 hk7.below.size, hk7.cells _ _ hbase hh6.out rfl⟩
          case measure => simp [intOf]; omega
        · gi_wp2_with fail
          refine bodyPost_ret (results_none rfl _ _ _) rfl ?_
          exact ⟨⟨_, rfl⟩, .inr ⟨_, trivial, hJx7⟩⟩
    · obtain rfl : k = m + 1 := by omega
      gi_wp2
      go_end0
      exact ⟨⟨_, rfl⟩, .inl ⟨pre, by rw [HP.out, HW.out, List.take_of_length_le (by rw [HL.out]; exact Nat.le_refl _)], hJs⟩⟩
end Go.Proofs.YtcpenjbacgjjeaaDoor
