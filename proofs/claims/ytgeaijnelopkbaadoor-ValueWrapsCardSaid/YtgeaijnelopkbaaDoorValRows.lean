/- The walks of package css. -/
import Derived.Test.YtgeaijnelopkbaaDoorNodR
import Derived.Test.YtgeaijnelopkbaaDoorShelf
import Derived.Test.YtgeaijnelopkbaaDoorValSays
import Derived.Maps.AppendAt
import Derived.IntWalk
import Derived.Deep.RegionHeld3
import Derived.Deep.RegionWith
import Derived.Test.YtgeaijnelopkbaaDoorValLaw5
set_option linter.unusedVariables false
set_option linter.unusedSimpArgs false
namespace Go.Proofs.YtgeaijnelopkbaaDoor
open Go.RowKit
open Go.Proofs.Qw
set_option maxHeartbeats 400000 in
theorem words_any (s : ByteArray) (w : World) (he : Env w) (hs : s.size ≤ 100000) :
    Calls Tryd.prog 53 #[.string s] w fun e w' => e = .returned (.tuple #[.int .i64 (words s.data.toList).1, .bool (words s.data.toList).2]) ∧ Below w.heap.size w w' := by
  go_enter Tryd.func53, Tryd.ntmps53
  go_wp2_with (go_at_call 74; refine (Tryd.strings_Split_shaped s ⟨#[32]⟩ w he (by omega) (Nat.le_refl 1)).mono ?_; rintro e w' ⟨rfl, rfl⟩)
  have hlen := splitB_len 32 s
  have hc := countB_small 32 s
  have hW : words s.data.toList = wordsGo 0 false ((Lib.splitB ⟨#[32]⟩ 0 (Lib.countB s ⟨#[32]⟩) s).map (·.data.toList)) := by rw [splitB_one]; rfl
  generalize Lib.splitB ⟨#[32]⟩ 0 (Lib.countB s ⟨#[32]⟩) s = xs at *
  generalize Lib.countB s ⟨#[32]⟩ = n at *
  have HL := Lib.hid hlen
  have HW := Lib.hid hW
  clear hlen hW
  have HC : Hid (∀ k x, xs[k]? = some x → (w.alloc (Obj.cells (List.map Value.string xs).toArray 9)).cell? ⟨w.heap.size, k, none⟩ = some (.string x)) := Lib.hid fun k x hx => by
    rw [cell_new]; simp [hx]
  go_loop [4, 5, 11] (fun b s i => ∃ (k : Nat) (bb : Int) (ss : Bool), k ≤ n + 1 ∧ i = .int .i64 k ∧ b = .int .i64 bb ∧ s = .bool ss ∧ wordsGo 0 false (xs.map (·.data.toList)) = wordsGo bb ss ((xs.drop k).map (·.data.toList))) (fun _ _ i => n + 1 - (intOf i).toNat)
  case atStart => exact ⟨0, 0, false, by omega, rfl, rfl, rfl, rfl⟩
  case round =>
    obtain ⟨k, bb, ss, hk, rfl, rfl, rfl, hg⟩ := hrel
    have HG := Lib.hid hg
    clear hg
    by_cases hlt : k < n + 1
    · obtain ⟨x, hx, hd⟩ := getOf xs k (by rw [HL.out]; exact hlt)
      have hx := HC.out k x hx
      have HD := Lib.hid hd
      clear hd
      go_wp2
      · go_round
        case rel => exact ⟨k + 1, _, _, by omega, by go_num, rfl, rfl, by rw [HG.out, HD.out, List.map_cons, wordsGo1 (eq_of_beq ‹_›)]⟩
        case measure => simp [intOf]; omega
      · go_round
        case rel => exact ⟨k + 1, _, _, by omega, by go_num, rfl, rfl, by rw [HG.out, HD.out, List.map_cons, wordsGo2 (ne_of_beq ‹(x.toList == [117, 110, 100, 101, 114, 108, 105, 110, 101]) = false›) (eq_of_beq ‹_›)]⟩
        case measure => simp [intOf]; omega
      · go_round
        case rel => exact ⟨k + 1, _, _, by omega, by go_num, rfl, rfl, by rw [HG.out, HD.out, List.map_cons, wordsGo3 (ne_of_beq ‹(x.toList == [117, 110, 100, 101, 114, 108, 105, 110, 101]) = false›) (ne_of_beq ‹(x.toList == [108, 105, 110, 101, 45, 116, 104, 114, 111, 117, 103, 104]) = false›) (nil_of_empty ‹_›)]⟩
        case measure => simp [intOf]; omega
      · go_ret2
        refine ⟨?_, (Below.refl _ _).alloc (Nat.le_refl _) _⟩
        rw [HW.out, HG.out, HD.out, List.map_cons, wordsGo4 (ne_of_beq ‹(x.toList == [117, 110, 100, 101, 114, 108, 105, 110, 101]) = false›) (ne_of_beq ‹(x.toList == [108, 105, 110, 101, 45, 116, 104, 114, 111, 117, 103, 104]) = false›) (ne_of_empty ‹_›)]
        rfl
    · obtain rfl : k = n + 1 := by omega
      rw [List.drop_eq_nil_of_le (by rw [HL.out]; exact Nat.le_refl _)] at HG
      go_wp2
      go_ret2
      refine ⟨?_, (Below.refl _ _).alloc (Nat.le_refl _) _⟩
      rw [HW.out, HG.out]
      rfl
set_option maxHeartbeats 400000 in
theorem low_any (s : ByteArray) (w : World) (hs : s.size ≤ 100000) :
    Calls Tryd.prog 75 #[.string s] w fun e w' => e = .returned (.string ⟨(low s.data.toList).toArray⟩) ∧ Below w.heap.size w w' := by
  obtain ⟨c, w1, hcv, hb1, hz1, hr1, hc1⟩ := bytes_of w s
  have HR := Lib.hid hr1
  have HB := Lib.hid hb1
  have hl : s.data.toList.length = s.size := Array.length_toList
  have HS := Lib.hid hl
  clear hr1 hb1 hl
  generalize s.data.toList = l at *
  go_enter Tryd.func75, Tryd.ntmps75
  go_wp2_with fail
  clear hcv
  go_loopw [4, 5, 10] (fun _ _ i wr => ∃ k : Nat, k ≤ s.size ∧ i = .int .i64 k ∧ RowAt wr w.heap.size 0 (bv (low (l.take k) ++ l.drop k)) ∧ Below w.heap.size w wr) (fun _ _ i _ => s.size - (intOf i).toNat)
  case atStart => exact ⟨0, by omega, rfl, HR.out, HB.out⟩
  case round =>
    obtain ⟨k, hk, rfl, hr, hb⟩ := hrel
    by_cases hlt : k < s.size
    · obtain ⟨b, hx, hd⟩ := getOf l k (by rw [HS.out]; exact hlt)
      have hp : (low (l.take k) ++ l.drop k)[k]? = some b := by
        rw [List.getElem?_append_right (by simp [low]; omega)]
        simp [low, hx, Nat.min_eq_left (show k ≤ l.length by rw [HS.out]; omega)]
      obtain ⟨hc, hf⟩ := hr k _ (bv_get hp)
      rw [Nat.zero_add] at hc hf
      have HX := Lib.hid hx
      have HP := Lib.hid hp
      clear hx hp hd
      go_wp2
      · go_roundw
        case rel =>
          refine ⟨k + 1, by omega, by go_num, ?_, hb.setCell (Nat.le_refl _) _⟩
          rw [← low_step HX.out, ← bv_set, ← lowc_yes ‹_› ‹_›]
          have := hr.set (i := k) (by rw [bv_length]; exact (List.getElem?_eq_some_iff.1 HP.out).1) (.int .u8 ((b.toNat : Int) + 32))
          rwa [Nat.zero_add] at this
        case measure => simp [intOf]; omega
      · go_roundw
        case rel => exact ⟨k + 1, by omega, by go_num, by rw [← low_keep HX.out (lowc_no (by omega))]; exact hr, hb⟩
        case measure => simp [intOf]; omega
      · go_roundw
        case rel => exact ⟨k + 1, by omega, by go_num, by rw [← low_keep HX.out (lowc_no (by omega))]; exact hr, hb⟩
        case measure => simp [intOf]; omega
    · obtain rfl : k = s.size := by omega
      have e : low (l.take s.size) ++ l.drop s.size = low l := by rw [List.take_of_length_le (by rw [HS.out]; exact Nat.le_refl _), List.drop_eq_nil_of_le (by rw [HS.out]; exact Nat.le_refl _), List.append_nil]
      rw [e] at hr
      have hst := string_of (c := c) hr
      rw [low_length, HS.out] at hst
      clear e
      go_wp2
      go_ret
      exact ⟨rfl, hb⟩
attribute [local go_sem] Oper.semAt_some
abbrev Decl := { x : List UInt8 × List UInt8 // x.1.length ≤ 100000 ∧ x.2.length ≤ 100000 }
abbrev declEnc (x : Decl) : Array Value := #[.string ⟨x.1.1.toArray⟩, .string ⟨x.1.2.toArray⟩]
set_option maxRecDepth 200000 in
set_option maxHeartbeats 4000000 in
theorem decl1_in (n l Bs base : Nat) (s : ByteArray) (hs : s.size ≤ 100000) (J Jx : List Decl → World → Prop) (w0 W : World) (he : Env w0) (hb0 : Below w0.heap.size w0 W) (hJ : AbidesFrom W.heap.size J) (hbase : base ≤ W.heap.size)
    (hY : ∀ (pre : List Decl) (x : Decl) W, J pre W → pre.length < 200000 → YieldAt Fence.wide (n - 1) Tryd.prog l (declEnc x) W fun e W' =>
      (e = .returned (.bool true) ∧ J (pre ++ [x]) W' ∧ Kp w0.heap.size base W W') ∨ (e = .returned (.bool false) ∧ Jx (pre ++ [x]) W'))
    (hBs : W.cell? ⟨Bs, 0, none⟩ = some (.string s)) (h0 : J [] W) :
    CallsIn Fence.wide n Tryd.prog 73 #[.func (.yield l) #[] #[], .pointer (some ⟨Bs, 0, none⟩)] W fun e W' => (∃ v, e = .returned v) ∧
      ((∃ ys : List Decl, ys.map (·.1) = decls s.data.toList ∧ J ys W') ∨ (∃ pre, True ∧ Jx pre W')) := by
  refine callsIn_of_wp Tryd.func73 rfl trivial ?_ rfl
  simp only [Tryd.ntmps73, List.size_toArray, List.length_cons, List.length_nil, Nat.reduceAdd, Nat.reduceSub, Array.replicate_succ, Array.replicate_zero, List.push_toArray, List.append_toArray, List.nil_append, List.cons_append]
  have hwf : ∀ f, Fence.wide.fn f := fun _ => trivial
  have hwd : Fence.wide.depth = none := rfl
  have heW := he.below hb0
  gi_wp2_with (gi_at_call 74; refine (callsIn_wide.2 (Tryd.strings_Split_shaped s ⟨#[59]⟩ W heW (by omega) (Nat.le_refl 1))).mono ?_; rintro e w' ⟨rfl, rfl⟩)
  have hlen := splitB_len 59 s
  have hc := countB_small 59 s
  have hW : decls s.data.toList = ((Lib.splitB ⟨#[59]⟩ 0 (Lib.countB s ⟨#[59]⟩) s).map (·.data.toList)).filterMap declOf := by rw [splitB_one]; rfl
  have hle : ∀ (k : Nat) (x : ByteArray), (Lib.splitB ⟨#[59]⟩ 0 (Lib.countB s ⟨#[59]⟩) s)[k]? = some x → x.size ≤ 100000 := fun k x hx => by
    have h1 : x.data.toList ∈ splitL 59 s.data.toList := by
      rw [← splitB_one]
      exact List.mem_map.2 ⟨x, List.mem_of_getElem? hx, rfl⟩
    have := splitL_le _ _ _ h1
    simp only [Array.length_toList] at this
    exact Nat.le_trans this hs
  generalize Lib.splitB ⟨#[59]⟩ 0 (Lib.countB s ⟨#[59]⟩) s = xs at *
  generalize Lib.countB s ⟨#[59]⟩ = m at *
  have HL := Lib.hid hlen
  have HW := Lib.hid hW
  have HE := Lib.hid hle
  clear hlen hW hle
  have HB : Hid (Below W.heap.size W (W.alloc (Obj.cells (List.map Value.string xs).toArray 9))) := Lib.hid ((Below.refl _ _).alloc (Nat.le_refl _) _)
  have HC : Hid ((W.alloc (Obj.cells (List.map Value.string xs).toArray 9)).heap[W.heap.size]? = some (Obj.cells (List.map Value.string xs).toArray 9)) := Lib.hid (World.alloc_heap_new _ _)
  have HJ0 : Hid (J [] (W.alloc (Obj.cells (List.map Value.string xs).toArray 9))) := Lib.hid (abides_below hJ h0 HB.out)
  have HJA := Lib.hid hJ
  clear hJ h0 heW hBs
  generalize W.alloc (Obj.cells (List.map Value.string xs).toArray 9) = W1 at *
  gi_loopw [11] (fun i wr => ∃ (k : Nat) (pre : List Decl), k ≤ m + 1 ∧ pre.length ≤ k ∧ i = .int .i64 k ∧ pre.map (·.1) = ((xs.take k).map (·.data.toList)).filterMap declOf ∧ J pre wr ∧ Below w0.heap.size w0 wr ∧ W.heap.size < wr.heap.size ∧ wr.heap[W.heap.size]? = some (Obj.cells (List.map Value.string xs).toArray 9))
    (fun i _ => m + 1 - (intOf i).toNat)
  case atStart => exact ⟨0, [], by omega, Nat.le_refl _, rfl, rfl, HJ0.out, hb0.trans (HB.out.mono hb0.size), (Array.getElem?_eq_some_iff.1 HC.out).1, HC.out⟩
  case round =>
    obtain ⟨k, pre, hk, hpl, rfl, hpre, hJs, hb1, hz1, hh1⟩ := hrel
    have HP := Lib.hid hpre
    have HH := Lib.hid hh1
    clear hpre hh1
    by_cases hlt : k < m + 1
    · obtain ⟨x, hx, hd⟩ := getOf xs k (by rw [HL.out]; exact hlt)
      have hxc : wr.cell? ⟨W.heap.size, k, none⟩ = some (.string x) := by rw [cell_of_heap HH.out]; simp [hx]
      have hxs := HE.out k x hx
      have HX := Lib.hid hx
      clear hd hx
      have her := he.below hb1
      gi_wp2_with fail
      refine (callsIn_wide.2 (Tryd.strings_Cut_shaped x ⟨#[58]⟩ wr her (by omega))).mono ?_
      rintro e w' ⟨rfl, nd, rfl⟩
      have hwb : Below wr.heap.size wr (wr.drewN nd) := ⟨rfl, rfl, rfl, Nat.le_refl _, fun _ _ => rfl⟩
      have hD : declOf x.data.toList = if (Lib.cut x.data.toList [58]).2.2 = true then some (low (Lib.trimB (Lib.cut x.data.toList [58]).1 32), low (Lib.trimB (Lib.cut x.data.toList [58]).2.1 32)) else none := rfl
      have hcl : (Lib.cut x.data.toList [58]).1.length ≤ 100000 ∧ (Lib.cut x.data.toList [58]).2.1.length ≤ 100000 := by
        have := cut_le x.data.toList
        have h2 : x.data.toList.length = x.size := Array.length_toList
        omega
      generalize wr.drewN nd = w2 at *
      generalize Lib.cut x.data.toList [58] = ct at *
      obtain ⟨nm, vl, ok⟩ := ct
      have HD := Lib.hid hD
      have HWB := Lib.hid hwb
      clear hD hwb
      have HW2 : Hid (Below w0.heap.size w0 w2) := Lib.hid (below_from hb1 HWB.out)
      have hJ2 := abides_below (X := wr) (Y := w2) HJA.out hJs HWB.out
      have hh2 : Hid (w2.heap[W.heap.size]? = some (Obj.cells (List.map Value.string xs).toArray 9)) := Lib.hid ((HWB.out.block _ hz1).trans HH.out)
      have hz2 : W.heap.size < w2.heap.size := Nat.lt_of_lt_of_le hz1 HWB.out.size
      cases ok
      · gi_wp2_with fail
        go_roundw
        case rel => exact ⟨k + 1, pre, by omega, by omega, by go_num, by rw [fm_none HX.out (HD.out.trans (if_neg (by simp)))]; exact HP.out, hJ2, HW2.out, hz2, hh2.out⟩
        case measure => simp [intOf]; omega
      · gi_wp2_with fail
        refine (callsIn_wide.2 (Tryd.strings_Trim_one ⟨nm.toArray⟩ 32 (by decide) w2 (by simp [ByteArray.size]; omega))).mono ?_
        rintro e w3 ⟨rfl, h3⟩
        have hb3 := Lib.hid (below_or h3)
        clear h3
        gi_wp2_with fail
        refine (callsIn_wide.2 (low_any ⟨(Lib.trimB nm 32).toArray⟩ w3 ?hs3)).mono ?_
        case hs3 => have := trimB_le nm 32; simp [ByteArray.size]; omega
        rintro e w4 ⟨rfl, hb4⟩
        have HB4 := Lib.hid hb4
        clear hb4
        gi_wp2_with fail
        refine (callsIn_wide.2 (Tryd.strings_Trim_one ⟨vl.toArray⟩ 32 (by decide) w4 (by simp [ByteArray.size]; omega))).mono ?_
        rintro e w5 ⟨rfl, h5⟩
        have hb5 := Lib.hid (below_or h5)
        clear h5
        gi_wp2_with fail
        refine (callsIn_wide.2 (low_any ⟨(Lib.trimB vl 32).toArray⟩ w5 ?hs5)).mono ?_
        case hs5 => have := trimB_le vl 32; simp [ByteArray.size]; omega
        rintro e w6 ⟨rfl, hb6⟩
        have HB6 := Lib.hid hb6
        clear hb6
        have hb26 : Hid (Below w2.heap.size w2 w6) := Lib.hid (below_from hb3.out (below_from HB4.out (below_from hb5.out HB6.out)))
        have HW6 : Hid (Below w0.heap.size w0 w6) := Lib.hid (below_from HW2.out hb26.out)
        have hJ6 := abides_below HJA.out hJ2 hb26.out
        have hh6 : Hid (w6.heap[W.heap.size]? = some (Obj.cells (List.map Value.string xs).toArray 9)) := Lib.hid ((hb26.out.block _ hz2).trans hh2.out)
        have hz6 : W.heap.size < w6.heap.size := Nat.lt_of_lt_of_le hz2 hb26.out.size
        obtain ⟨fn, tmps, assign, body, hy, hR⟩ := hY pre ⟨(low (Lib.trimB nm 32), low (Lib.trimB vl 32)), by have := trimB_le vl 32; have := trimB_le nm 32; rw [low_length, low_length]; omega⟩ w6 hJ6 (by omega)
        dsimp only [declEnc] at hy
        gi_wp2_with fail
        refine hR.mono ?_
        rintro e w7 (⟨rfl, hJ7, hk7⟩ | ⟨rfl, hJx7⟩)
        · gi_wp2_with fail
          go_roundw
          case rel => exact ⟨k + 1, _, by omega, by simp; omega, by go_num, by rw [fm_some HX.out (HD.out.trans (if_pos trivial)), List.map_append, HP.out]; rfl, hJ7, HW6.out.trans hk7.below, Nat.lt_of_lt_of_le hz6 hk7.below.size, hk7.cells _ _ hbase hh6.out rfl⟩
          case measure => simp [intOf]; omega
        · gi_wp2_with fail
          refine bodyPost_ret (results_none rfl _ _ _) rfl ?_
          exact ⟨⟨_, rfl⟩, .inr ⟨_, trivial, hJx7⟩⟩
    · obtain rfl : k = m + 1 := by omega
      gi_wp2
      go_end0
      exact ⟨⟨_, rfl⟩, .inl ⟨pre, by rw [HP.out, HW.out, List.take_of_length_le (by rw [HL.out]; exact Nat.le_refl _)], hJs⟩⟩
end Go.Proofs.YtgeaijnelopkbaaDoor
namespace Go.Proofs.YtgeaijnelopkbaaDoor
open Go.RowKit
open Go.Proofs.Qw
attribute [local go_sem] Oper.semAt_some
set_option maxHeartbeats 400000 in
theorem say_any (a b : Int) (B C : Nat) (x y : Int) (w : World) (h1 : w.cell? ⟨B, 0, none⟩ = some (.int .i64 x)) (h2 : w.cell? ⟨C, 0, none⟩ = some (.int .i64 y)) (f1 : w.frozen? ⟨B, 0, none⟩ = false) (f2 : w.frozen? ⟨C, 0, none⟩ = false) (hn : B < C) :
    Calls Tryd.prog 51 #[.int .i64 a, .int .i64 b, .pointer (some ⟨B, 0, none⟩), .pointer (some ⟨C, 0, none⟩)] w fun e w' => e = .returned (.tuple #[]) ∧
      w' = ((w.setCell ⟨B, 0, none⟩ (.int .i64 (cssSay (x, y) a b).1)).setCell ⟨C, 0, none⟩ (.int .i64 (cssSay (x, y) a b).2)).drew := by
  go_enter Tryd.func51, Tryd.ntmps51
  go_wp2
  go_region
  all_goals (go_end0; exact ⟨rfl, rfl⟩)
set_option maxHeartbeats 400000 in
theorem declarations_any (s : ByteArray) (w : World) :
    Calls Tryd.prog 52 #[.string s] w fun e w' => e = .returned (.func (.func 73) #[] #[.pointer (some ⟨w.heap.size, 0, none⟩)]) ∧ w' = w.alloc (.cells #[.string s] 9) := by
  go_enter Tryd.func52, Tryd.ntmps52
  go_wp2
  go_ret
  exact ⟨rfl, rfl⟩
def sayFn (b : Nat) : Value := .func (.func 51) #[] #[.pointer (some ⟨b, 0, none⟩), .pointer (some ⟨b + 1, 0, none⟩)]
def PI (w : World) (pre : List Decl) (W : World) : Prop :=
  Boxed W w.heap.size 3 (.int .i64 ((pre.map (·.1)).foldl cssStep (0, 0)).1) ∧ Boxed W (w.heap.size + 1) 3 (.int .i64 ((pre.map (·.1)).foldl cssStep (0, 0)).2) ∧
    Boxed W (w.heap.size + 2) 63 (sayFn w.heap.size) ∧ Below w.heap.size w W ∧ w.heap.size + 4 ≤ W.heap.size
theorem pi_own {w : World} {B : Nat} (hB : w.heap.size ≤ B) : OwnFrom B (PI w) :=
  OwnFrom.and (Own.from (boxed_own _ _ (fun pre : List Decl => .int .i64 ((pre.map (·.1)).foldl cssStep (0, 0)).1)) _) (OwnFrom.and (Own.from (boxed_own _ _ (fun pre : List Decl => .int .i64 ((pre.map (·.1)).foldl cssStep (0, 0)).2)) _) (OwnFrom.and (Own.from (boxed_own _ _ (fun _ => sayFn w.heap.size)) _) (OwnFrom.and (ownFrom_below (Nat.le_refl _) hB) (ownFrom_size _ _))))
theorem pi_snoc (pre : List Decl) (x : Decl) : ((pre ++ [x]).map (·.1)).foldl cssStep (0, 0) = cssStep ((pre.map (·.1)).foldl cssStep (0, 0)) x.1 := by
  simp only [List.map_append, List.map_cons, List.map_nil, List.foldl_append, List.foldl_cons, List.foldl_nil]
theorem boxes_set {w W : World} {t u : TypeId} {v0 v1 v2 : Value} {B W0s : Nat} (c0 : Boxed W B t v0) (c1 : Boxed W (B + 1) t v1) (c2 : Boxed W (B + 2) u v2) (hb : Below w.heap.size w W) (hB : w.heap.size ≤ B) (hz : B + 4 ≤ W.heap.size) (hW0 : B + 1 < W0s) (x y : Value) {W' : World}
    (hW : W' = ((W.setCell ⟨B, 0, none⟩ x).setCell ⟨B + 1, 0, none⟩ y).drew) :
    KeepsOthers W W' ∧ Kp w.heap.size W0s W W' ∧ Boxed W' B t x ∧ Boxed W' (B + 1) t y ∧ Boxed W' (B + 2) u v2 ∧ Below w.heap.size w W' ∧ B + 4 ≤ W'.heap.size := by
  subst hW
  exact ⟨((KeepsOthers.setCell _ _ _).trans (KeepsOthers.setCell _ _ _)).trans (KeepsOthers.drew _), ((Kp.setCell _ hB (by omega) _).t (Kp.setCell _ (by omega) (by omega) _)).t (Kp.of_below (by simp [World.setCell]; omega) (Below.refl _ _).drew),
    (c0.set _).other (by omega) _, (c1.other (by omega) _).set _, (c2.other (by omega) _).other (by omega) _, ((hb.setCell (p := ⟨B, 0, none⟩) hB _).setCell (p := ⟨B + 1, 0, none⟩) (by simp; omega) _).drew, by simp [World.setCell]; exact hz⟩
theorem pi_said {w W0 W : World} {pre : List Decl} {x : Decl} {on off : Int} (hI : PI w pre W) (hz0 : W0.heap.size = w.heap.size + 4)
    (hs : cssStep ((pre.map (·.1)).foldl cssStep (0, 0)) x.1 = cssSay ((pre.map (·.1)).foldl cssStep (0, 0)) on off) {W' : World}
    (hW : W' = ((W.setCell ⟨w.heap.size, 0, none⟩ (.int .i64 (cssSay ((pre.map (·.1)).foldl cssStep (0, 0)) on off).1)).setCell ⟨w.heap.size + 1, 0, none⟩ (.int .i64 (cssSay ((pre.map (·.1)).foldl cssStep (0, 0)) on off).2)).drew) :
    KeepsOthers W W' ∧ Kp w.heap.size W0.heap.size W W' ∧ PI w (pre ++ [x]) W' := by
  obtain ⟨c0, c1, c2, hb, hz⟩ := hI
  have h := boxes_set (W0s := W0.heap.size) c0 c1 c2 hb (Nat.le_refl _) hz (by omega) _ _ hW
  unfold PI
  rw [pi_snoc, hs]
  exact h
theorem PI.below {w W W' : World} {pre : List Decl} (hI : PI w pre W) (hW : Below W.heap.size W W') : PI w pre W' := by
  obtain ⟨c0, c1, c2, hb, hz⟩ := hI
  exact ⟨c0.kept (grown_of_below hW) (by simp), c1.kept (grown_of_below hW) (by simp), c2.kept (grown_of_below hW) (by simp), hb.trans (hW.mono (by omega)), Nat.le_trans hz hW.size⟩
theorem pi_kept {w W0 W W' : World} {pre : List Decl} {x : Decl} (hI : PI w pre W)
    (hs : cssStep ((pre.map (·.1)).foldl cssStep (0, 0)) x.1 = (pre.map (·.1)).foldl cssStep (0, 0)) (hW : Below W.heap.size W W') :
    KeepsOthers W W' ∧ Kp w.heap.size W0.heap.size W W' ∧ PI w (pre ++ [x]) W' := by
  have h2 := hI.below hW
  obtain ⟨_, _, _, hb, hz⟩ := hI
  refine ⟨keeps_below hW, Kp.of_below (by omega) hW, ?_⟩
  unfold PI at h2 ⊢
  rw [pi_snoc, hs]
  exact h2
theorem pi_said2 {w W0 W W2 : World} {pre : List Decl} {x : Decl} {on off : Int} (hI : PI w pre W) (hW2 : Below W.heap.size W W2) (hz0 : W0.heap.size = w.heap.size + 4)
    (hs : cssStep ((pre.map (·.1)).foldl cssStep (0, 0)) x.1 = cssSay ((pre.map (·.1)).foldl cssStep (0, 0)) on off) {W' : World}
    (hW : W' = ((W2.setCell ⟨w.heap.size, 0, none⟩ (.int .i64 (cssSay ((pre.map (·.1)).foldl cssStep (0, 0)) on off).1)).setCell ⟨w.heap.size + 1, 0, none⟩ (.int .i64 (cssSay ((pre.map (·.1)).foldl cssStep (0, 0)) on off).2)).drew) :
    KeepsOthers W W' ∧ Kp w.heap.size W0.heap.size W W' ∧ PI w (pre ++ [x]) W' := by
  have h := pi_said (hI.below hW2) hz0 hs hW
  obtain ⟨_, _, _, _, hz⟩ := hI
  exact ⟨(keeps_below hW2).trans h.1, (Kp.of_below (by omega) hW2).t h.2.1, h.2.2⟩
set_option maxRecDepth 200000 in
set_option maxHeartbeats 4000000 in
theorem parse_any (s : ByteArray) (w : World) (he : Env w) (hs : s.size ≤ 100000) :
    Calls Tryd.prog 35 #[.string s] w fun e w' => e = .returned (.tuple #[.int .i64 (cssParse s.data.toList).1, .int .i64 (cssParse s.data.toList).2]) ∧ Below w.heap.size w w' := by
  refine (callsIn_wide (n := 6)).1 ?_
  refine callsIn_of_wp_marks Tryd.func35 rfl trivial ?_ rfl
  simp only [Tryd.ntmps35, List.size_toArray, List.length_cons, List.length_nil, Nat.reduceAdd, Nat.reduceSub, Array.replicate_succ, Array.replicate_zero, List.push_toArray, List.append_toArray, List.nil_append, List.cons_append]
  have hwf : ∀ f, Fence.wide.fn f := fun _ => trivial
  have hwd : Fence.wide.depth = none := rfl
  gi_wp2_with (gi_at_call 52; refine (callsIn_wide.2 (declarations_any s _)).mono ?_; rintro e w' ⟨rfl, rfl⟩)
  have hw0 : ∃ W0 : World, ((((w.alloc (.cells #[.int .i64 0] 3)).alloc (.cells #[.int .i64 0] 3)).alloc (.cells #[.func (.func 51) #[] #[.pointer (some ⟨w.heap.size, 0, none⟩), .pointer (some ⟨w.heap.size + 1, 0, none⟩)]] 63)).alloc (.cells #[.string s] 9)) = W0 := ⟨_, rfl⟩
  obtain ⟨W0, hW0⟩ := hw0
  rw [hW0]
  have b0 : Boxed W0 w.heap.size 3 (.int .i64 0) := hW0 ▸ (((Boxed.new w _ _).alloc _).alloc _).alloc _
  have b1 : Boxed W0 (w.heap.size + 1) 3 (.int .i64 0) := hW0 ▸ ((Boxed.newAt (by simp) _ _).alloc _).alloc _
  have b2 : Boxed W0 (w.heap.size + 2) 63 (sayFn w.heap.size) := hW0 ▸ (Boxed.newAt (by simp) _ _).alloc _
  have b3 : Boxed W0 (w.heap.size + 3) 9 (.string s) := hW0 ▸ Boxed.newAt (by simp) _ _
  have hz0 : W0.heap.size = w.heap.size + 4 := by rw [← hW0]; simp
  have hb0 : Below w.heap.size w W0 := hW0 ▸ ((((Below.refl _ w).alloc (Nat.le_refl _) _).alloc (by simp) _).alloc (by simp; omega) _).alloc (by simp; omega) _
  clear hW0
  refine wpIn_rangeFunc_ownF rfl (by omega) (gf := 73) (lb := #[.pointer (some ⟨w.heap.size + 1 + 1 + 1, 0, none⟩)]) rfl trivial (enters_of Tryd.func73 (by kernel_rfl) rfl)
    (encs := declEnc) (Kp := Kp w.heap.size W0.heap.size) (S := fun ys => ys.map (·.1) = decls s.data.toList) (Sp := fun _ => True) (N := 200000) (w0 := W0) ?seq (fun h k => h.t k) (Kp.b (by omega)) (Below.refl _ _) (fun _ => rfl)
    (PI w) (fun _ _ _ => False) (pi_own (by omega)) (fun _ _ _ _ _ hs _ _ => hs) ⟨b0, b1, b2, hb0, by omega⟩ ?a1 ?assign ?body ?done ?stop
  case assign =>
    intro l x W K hK
    gi_wp2
    exact hK
  case seq =>
    intro l J Jx W hW hJ _ hY h0
    exact decl1_in 5 l (w.heap.size + 3) W0.heap.size s hs J Jx w W he (hb0.trans (hW.mono (by omega))) hJ hW.size (fun pre x W1 hj hl => hY pre x W1 hj hl) ((hW.cell (p := ⟨w.heap.size + 3, 0, none⟩) (by simp; omega)).trans b3.cell) h0
  case body =>
    rintro l pre ⟨⟨nm, vl⟩, hx1, hx2⟩ W hI _
    clear b0 b1 b2 b3
    have HI := Lib.hid hI
    obtain ⟨c0, c1, c2, hb, hz⟩ := hI
    have e0 := c0.cell
    have e1 := c1.cell
    have e2 : W.cell? ⟨w.heap.size + 1 + 1, 0, none⟩ = some (.func (.func 51) #[] #[.pointer (some ⟨w.heap.size, 0, none⟩), .pointer (some ⟨w.heap.size + 1, 0, none⟩)]) := c2.cell
    have f0 := c0.frozen
    have f1 := c1.frozen
    have hwe := he.below hb
    dsimp only at hx1 hx2
    clear c0 c1 c2 hb hb0
    obtain ⟨T, hT⟩ : ∃ T : ByteArray, (⟨nm.toArray⟩ ++ ⟨#[58]⟩ ++ ⟨vl.toArray⟩ : ByteArray) = T := ⟨_, rfl⟩
    have HT : Hid (T.data.toList = nm ++ 58 :: vl) := Lib.hid (by rw [← hT]; simp)
    have HE : Hid (∀ st, cssStep st (nm, vl) = cssStepT T.data.toList st nm vl) := Lib.hid fun st => by rw [HT.out]; rfl
    gi_wp2_with (first | (gi_at_call 51; refine (CallsIn.inRound l (callsIn_wide.2 (say_any _ _ _ _ _ _ _ (by assumption) (by assumption) (by assumption) (by assumption) (by omega)))).mono ?_; rintro e w' ⟨rfl, rfl⟩) | (gi_at_call 53; refine (CallsIn.inRound l (callsIn_wide.2 (words_any ⟨vl.toArray⟩ W hwe (by simp [ByteArray.size]; omega)))).mono ?_; rintro e w2 ⟨rfl, hb2⟩; have g0 := (hb2.cell (p := ⟨w.heap.size, 0, none⟩) (by simp; omega)).trans e0; have g1 := (hb2.cell (p := ⟨w.heap.size + 1, 0, none⟩) (by simp; omega)).trans e1; have g2 := (hb2.cell (p := ⟨w.heap.size + 1 + 1, 0, none⟩) (by simp; omega)).trans e2; have g3 := (hb2.frozen (p := ⟨w.heap.size, 0, none⟩) (by simp; omega)).trans f0; have g4 := (hb2.frozen (p := ⟨w.heap.size + 1, 0, none⟩) (by simp; omega)).trans f1; have HB2 := Lib.hid hb2; clear hb2))
    · exact pi_said (x := ⟨(nm, vl), hx1, hx2⟩) HI.out hz0 ((HE.out _).trans (cssT1  (eq_of_beq ‹(T.toList == [102, 111, 110, 116, 45, 119, 101, 105, 103, 104, 116, 58, 98, 111, 108, 100]) = true›))) rfl
    · exact pi_said (x := ⟨(nm, vl), hx1, hx2⟩) HI.out hz0 ((HE.out _).trans (cssT2 (ne_of_beq ‹(T.toList == [102, 111, 110, 116, 45, 119, 101, 105, 103, 104, 116, 58, 98, 111, 108, 100]) = false›) (eq_of_beq ‹(T.toList == [102, 111, 110, 116, 45, 119, 101, 105, 103, 104, 116, 58, 55, 48, 48]) = true›))) rfl
    · exact pi_said (x := ⟨(nm, vl), hx1, hx2⟩) HI.out hz0 ((HE.out _).trans (cssT3 (ne_of_beq ‹(T.toList == [102, 111, 110, 116, 45, 119, 101, 105, 103, 104, 116, 58, 98, 111, 108, 100]) = false›) (ne_of_beq ‹(T.toList == [102, 111, 110, 116, 45, 119, 101, 105, 103, 104, 116, 58, 55, 48, 48]) = false›) (eq_of_beq ‹(T.toList == [102, 111, 110, 116, 45, 119, 101, 105, 103, 104, 116, 58, 110, 111, 114, 109, 97, 108]) = true›))) rfl
    · exact pi_said (x := ⟨(nm, vl), hx1, hx2⟩) HI.out hz0 ((HE.out _).trans (cssT4 (ne_of_beq ‹(T.toList == [102, 111, 110, 116, 45, 119, 101, 105, 103, 104, 116, 58, 98, 111, 108, 100]) = false›) (ne_of_beq ‹(T.toList == [102, 111, 110, 116, 45, 119, 101, 105, 103, 104, 116, 58, 55, 48, 48]) = false›) (ne_of_beq ‹(T.toList == [102, 111, 110, 116, 45, 119, 101, 105, 103, 104, 116, 58, 110, 111, 114, 109, 97, 108]) = false›) (eq_of_beq ‹(T.toList == [102, 111, 110, 116, 45, 119, 101, 105, 103, 104, 116, 58, 52, 48, 48]) = true›))) rfl
    · exact pi_said (x := ⟨(nm, vl), hx1, hx2⟩) HI.out hz0 ((HE.out _).trans (cssT5 (ne_of_beq ‹(T.toList == [102, 111, 110, 116, 45, 119, 101, 105, 103, 104, 116, 58, 98, 111, 108, 100]) = false›) (ne_of_beq ‹(T.toList == [102, 111, 110, 116, 45, 119, 101, 105, 103, 104, 116, 58, 55, 48, 48]) = false›) (ne_of_beq ‹(T.toList == [102, 111, 110, 116, 45, 119, 101, 105, 103, 104, 116, 58, 110, 111, 114, 109, 97, 108]) = false›) (ne_of_beq ‹(T.toList == [102, 111, 110, 116, 45, 119, 101, 105, 103, 104, 116, 58, 52, 48, 48]) = false›) (eq_of_beq ‹(T.toList == [102, 111, 110, 116, 45, 115, 116, 121, 108, 101, 58, 105, 116, 97, 108, 105, 99]) = true›))) rfl
    · exact pi_said (x := ⟨(nm, vl), hx1, hx2⟩) HI.out hz0 ((HE.out _).trans (cssT6 (ne_of_beq ‹(T.toList == [102, 111, 110, 116, 45, 119, 101, 105, 103, 104, 116, 58, 98, 111, 108, 100]) = false›) (ne_of_beq ‹(T.toList == [102, 111, 110, 116, 45, 119, 101, 105, 103, 104, 116, 58, 55, 48, 48]) = false›) (ne_of_beq ‹(T.toList == [102, 111, 110, 116, 45, 119, 101, 105, 103, 104, 116, 58, 110, 111, 114, 109, 97, 108]) = false›) (ne_of_beq ‹(T.toList == [102, 111, 110, 116, 45, 119, 101, 105, 103, 104, 116, 58, 52, 48, 48]) = false›) (ne_of_beq ‹(T.toList == [102, 111, 110, 116, 45, 115, 116, 121, 108, 101, 58, 105, 116, 97, 108, 105, 99]) = false›) (eq_of_beq ‹(T.toList == [102, 111, 110, 116, 45, 115, 116, 121, 108, 101, 58, 110, 111, 114, 109, 97, 108]) = true›))) rfl
    · exact pi_said (x := ⟨(nm, vl), hx1, hx2⟩) HI.out hz0 ((HE.out _).trans (cssT7 (ne_of_beq ‹(T.toList == [102, 111, 110, 116, 45, 119, 101, 105, 103, 104, 116, 58, 98, 111, 108, 100]) = false›) (ne_of_beq ‹(T.toList == [102, 111, 110, 116, 45, 119, 101, 105, 103, 104, 116, 58, 55, 48, 48]) = false›) (ne_of_beq ‹(T.toList == [102, 111, 110, 116, 45, 119, 101, 105, 103, 104, 116, 58, 110, 111, 114, 109, 97, 108]) = false›) (ne_of_beq ‹(T.toList == [102, 111, 110, 116, 45, 119, 101, 105, 103, 104, 116, 58, 52, 48, 48]) = false›) (ne_of_beq ‹(T.toList == [102, 111, 110, 116, 45, 115, 116, 121, 108, 101, 58, 105, 116, 97, 108, 105, 99]) = false›) (ne_of_beq ‹(T.toList == [102, 111, 110, 116, 45, 115, 116, 121, 108, 101, 58, 110, 111, 114, 109, 97, 108]) = false›) (eq_of_beq ‹(T.toList == [116, 101, 120, 116, 45, 100, 101, 99, 111, 114, 97, 116, 105, 111, 110, 58, 110, 111, 110, 101]) = true›))) rfl
    all_goals have h8 := (HE.out ((pre.map (·.1)).foldl cssStep (0, 0))).trans (cssT8 (ne_of_beq ‹(T.toList == [102, 111, 110, 116, 45, 119, 101, 105, 103, 104, 116, 58, 98, 111, 108, 100]) = false›) (ne_of_beq ‹(T.toList == [102, 111, 110, 116, 45, 119, 101, 105, 103, 104, 116, 58, 55, 48, 48]) = false›) (ne_of_beq ‹(T.toList == [102, 111, 110, 116, 45, 119, 101, 105, 103, 104, 116, 58, 110, 111, 114, 109, 97, 108]) = false›) (ne_of_beq ‹(T.toList == [102, 111, 110, 116, 45, 119, 101, 105, 103, 104, 116, 58, 52, 48, 48]) = false›) (ne_of_beq ‹(T.toList == [102, 111, 110, 116, 45, 115, 116, 121, 108, 101, 58, 105, 116, 97, 108, 105, 99]) = false›) (ne_of_beq ‹(T.toList == [102, 111, 110, 116, 45, 115, 116, 121, 108, 101, 58, 110, 111, 114, 109, 97, 108]) = false›) (ne_of_beq ‹(T.toList == [116, 101, 120, 116, 45, 100, 101, 99, 111, 114, 97, 116, 105, 111, 110, 58, 110, 111, 110, 101]) = false›))
    all_goals go_tidy
    · exact pi_said2 (x := ⟨(nm, vl), hx1, hx2⟩) HI.out HB2.out hz0 (h8.trans ((if_pos ‹(words vl).2 = true›).trans (if_pos (show nm = textDeco from beq_iff_eq.1 ‹_›)))) rfl
    · exact pi_kept (x := ⟨(nm, vl), hx1, hx2⟩) HI.out (h8.trans ((if_pos ‹(words vl).2 = true›).trans (if_neg (show ¬ nm = textDeco from beq_eq_false_iff_ne.1 ‹_›)))) HB2.out
    · exact pi_kept (x := ⟨(nm, vl), hx1, hx2⟩) HI.out (h8.trans (if_neg ‹_›)) HB2.out
  case done =>
    rintro D ys W hD hys ⟨c0, c1, c2, hb, hz⟩ hK
    have e0 := c0.cell
    have e1 := c1.cell
    have f0 := c0.frozen
    have f1 := c1.frozen
    gi_wp2
    gi_region
    gi_wp2
    have hK2 : ((W.setCell ⟨w.heap.size, 0, none⟩ (.int .i64 (List.foldl cssStep (0, 0) (decls s.data.toList)).1)).setCell ⟨w.heap.size + 1, 0, none⟩ (.int .i64 (List.foldl cssStep (0, 0) (decls s.data.toList)).2)).drew.heap[D]? = some (.deferred (some [])) := by
      show ((W.setCell _ _).setCell _ _).heap[D]? = _
      rw [Below.heap_setCell _ _ _ _ (by simp; omega), Below.heap_setCell _ _ _ _ (by simp; omega)]
      exact hK
    refine ⟨by simp, .inl ⟨_, _, rfl, run_takeDeferred hK2, ?_⟩⟩
    have g0 : (((W.setCell ⟨w.heap.size, 0, none⟩ (.int .i64 (List.foldl cssStep (0, 0) (decls s.data.toList)).1)).setCell ⟨w.heap.size + 1, 0, none⟩ (.int .i64 (List.foldl cssStep (0, 0) (decls s.data.toList)).2)).drew).cell? ⟨w.heap.size, 0, none⟩ = some (.int .i64 (List.foldl cssStep (0, 0) (decls s.data.toList)).1) :=
      (setCell_block (by omega)).trans (setCell_same e0)
    have g1 : (((W.setCell ⟨w.heap.size, 0, none⟩ (.int .i64 (List.foldl cssStep (0, 0) (decls s.data.toList)).1)).setCell ⟨w.heap.size + 1, 0, none⟩ (.int .i64 (List.foldl cssStep (0, 0) (decls s.data.toList)).2)).drew).cell? ⟨w.heap.size + 1, 0, none⟩ = some (.int .i64 (List.foldl cssStep (0, 0) (decls s.data.toList)).2) :=
      setCell_same ((setCell_block (by omega)).trans e1)
    have hB2 : Below w.heap.size w ((W.setCell ⟨w.heap.size, 0, none⟩ (.int .i64 (List.foldl cssStep (0, 0) (decls s.data.toList)).1)).setCell ⟨w.heap.size + 1, 0, none⟩ (.int .i64 (List.foldl cssStep (0, 0) (decls s.data.toList)).2)).drew :=
      ((hb.setCell (p := ⟨w.heap.size, 0, none⟩) (Nat.le_refl _) _).setCell (p := ⟨w.heap.size + 1, 0, none⟩) (by simp) _).drew
    generalize ((W.setCell ⟨w.heap.size, 0, none⟩ (.int .i64 (List.foldl cssStep (0, 0) (decls s.data.toList)).1)).setCell ⟨w.heap.size + 1, 0, none⟩ (.int .i64 (List.foldl cssStep (0, 0) (decls s.data.toList)).2)).drew = W9 at *
    have hD2 : w.heap.size + 4 ≤ D := by omega
    have q0 : (W9.putObj D (.deferred none)).cell? ⟨w.heap.size, 0, none⟩ = some (.int .i64 (List.foldl cssStep (0, 0) (decls s.data.toList)).1) := (World.cell?_of_block (World.putObj_heap_other (by simp; omega))).trans g0
    have q1 : (W9.putObj D (.deferred none)).cell? ⟨w.heap.size + 1, 0, none⟩ = some (.int .i64 (List.foldl cssStep (0, 0) (decls s.data.toList)).2) := (World.cell?_of_block (World.putObj_heap_other (by simp; omega))).trans g1
    refine ⟨_, ?_, rfl, ?_⟩
    · simp [results, Tryd.results35, go_sem, q0, q1]
      exact ⟨rfl, rfl⟩
    · exact hB2.trans (belowK_b (w := w) (Nat.le_refl _) W9 D _ _ (by omega) hK2 rfl rfl)
  case stop =>
    rintro D c pre W _ _ h _
    exact h.elim
end Go.Proofs.YtgeaijnelopkbaaDoor
namespace Go.Proofs.YtgeaijnelopkbaaDoor
open Go.RowKit
open Go.Proofs.Qw
def strV (l : List UInt8) : Value := .string ⟨l.toArray⟩
theorem Tryd.infoStr : (Tryd.prog.info? 9).map (fun i => (i.zero, i.size, i.bytes)) = some (some (.string ⟨#[]⟩), 1, 16) := by kernel_rfl
def Prt (n : Nat) (x y : Int) (l : List (List UInt8)) (W : World) : Prop :=
  Boxed W n 3 (.int .i64 x) ∧ Boxed W (n + 1) 3 (.int .i64 y) ∧ n + 3 ≤ W.heap.size ∧ ∃ v, Boxed W (n + 2) 69 v ∧ W.ownsRow n 9 1 v l.length (l.map strV)
theorem Prt.below {n : Nat} {x y : Int} {l : List (List UInt8)} {W W' : World} (h : Prt n x y l W) (hb : Below W.heap.size W W') : Prt n x y l W' := by
  obtain ⟨b0, b1, hz, v, hv, hrow⟩ := h
  exact ⟨b0.kept (grown_of_below hb) (by simp), b1.kept (grown_of_below hb) (by simp), Nat.le_trans hz hb.size, v, hv.kept (grown_of_below hb) (by simp), hrow.kept (grown_of_below hb) (by cases v <;> simp [Value.ownBlock]; split <;> simp)⟩
theorem below_append {W w1 : World} {n₀ : Nat} {e : TypeId} {size k : Nat} {v : Value} {xs : List Value} {tmp : Obj} (hrow : W.ownsRow n₀ e size v k xs) (hn : n₀ ≤ W.heap.size) (hg : (W.alloc tmp).grownBy w1 v.ownBlock) : Below n₀ W w1 :=
  ((Below.refl n₀ W).alloc hn tmp).grown hg (by simp; omega) fun j ej => (hrow.lt j ej).1
end Go.Proofs.YtgeaijnelopkbaaDoor
namespace Go.Proofs.Qw
theorem splitL_len (c : UInt8) : ∀ l : List UInt8, (splitL c l).length ≤ l.length + 1
  | [] => by simp [splitL]
  | b :: l => by
    have ih := splitL_len c l
    unfold splitL
    split
    · simp; omega
    · simp; omega
def refWords (b : Int) : List (List UInt8) → Option Int
  | [] => some b
  | w :: r => if w = underline then refWords (bits .or .i64 b 4) r else if w = through then refWords (bits .or .i64 b 8) r else if w = [] then refWords b r else none
theorem refWords1 {b : Int} {w : List UInt8} {r : List (List UInt8)} (h : w = underline) : refWords b (w :: r) = refWords (bits .or .i64 b 4) r := by rw [refWords, if_pos h]
theorem refWords2 {b : Int} {w : List UInt8} {r : List (List UInt8)} (h1 : w ≠ underline) (h : w = through) : refWords b (w :: r) = refWords (bits .or .i64 b 8) r := by rw [refWords, if_neg h1, if_pos h]
theorem refWords3 {b : Int} {w : List UInt8} {r : List (List UInt8)} (h1 : w ≠ underline) (h2 : w ≠ through) (h : w = []) : refWords b (w :: r) = refWords b r := by rw [refWords, if_neg h1, if_neg h2, if_pos h]
theorem refWords4 {b : Int} {w : List UInt8} {r : List (List UInt8)} (h1 : w ≠ underline) (h2 : w ≠ through) (h : w ≠ []) : refWords b (w :: r) = none := by rw [refWords, if_neg h1, if_neg h2, if_neg h]
def refDeco : Option Int → Int × Int × Bool
  | some b => (b, bits .andNot .i64 12 b, b != 0)
  | none => (0, 0, false)
def refSays (nm vl : List UInt8) : Int × Int × Bool :=
  if nm = fontWeight then (if vl = bold ∨ vl = w700 then (1, 0, true) else (0, 1, decide (vl = normal ∨ vl = w400)))
  else if nm = fontStyle then (if vl = italic then (2, 0, true) else (0, 2, decide (vl = normal)))
  else if nm = textDeco then (if vl = none_ then (0, 12, true) else refDeco (refWords 0 (splitL 32 vl)))
  else (0, 0, false)
def refStep (st : Int × Int) (d : List UInt8) : Int × Int :=
  if (cutL d).2.2 = true then
    (if (refSays (low (Lib.trimB (cutL d).1 32)) (low (Lib.trimB (cutL d).2.1 32))).2.2 = true then
      cssSay st (refSays (low (Lib.trimB (cutL d).1 32)) (low (Lib.trimB (cutL d).2.1 32))).1 (refSays (low (Lib.trimB (cutL d).1 32)) (low (Lib.trimB (cutL d).2.1 32))).2.1 else st) else st
def refParse (l : List UInt8) : Int × Int := (splitL 59 l).foldl refStep (0, 0)
theorem words_both : ∀ (r : List (List UInt8)) (b : Int) (s : Bool), (b = 0 ∨ b = 4 ∨ b = 8 ∨ b = 12) → s = (b != 0) →
    wordsGo b s r = match refWords b r with | some c => (c, c != 0) | none => (0, false)
  | [], b, s, _, hs => by rw [wordsGo, refWords, hs]
  | w :: r, b, s, hb, hs => by
    have h4 : bits .or .i64 b 4 = 4 ∨ bits .or .i64 b 4 = 12 := by rcases hb with rfl | rfl | rfl | rfl <;> decide +kernel
    have h8 : bits .or .i64 b 8 = 8 ∨ bits .or .i64 b 8 = 12 := by rcases hb with rfl | rfl | rfl | rfl <;> decide +kernel
    unfold wordsGo refWords
    split
    · refine words_both r _ _ ?_ ?_
      · rcases h4 with h | h <;> simp [h]
      · rcases h4 with h | h <;> rw [h] <;> rfl
    · split
      · refine words_both r _ _ ?_ ?_
        · rcases h8 with h | h <;> simp [h]
        · rcases h8 with h | h <;> rw [h] <;> rfl
      · split
        · exact words_both r _ _ hb hs
        · rfl
theorem words_ref (vl : List UInt8) : words vl = match refWords 0 (splitL 32 vl) with | some c => (c, c != 0) | none => (0, false) := words_both _ _ _ (.inl rfl) rfl
theorem colon_inj {a b c d : List UInt8} (ha : 58 ∉ a) (hc : 58 ∉ c) : a ++ 58 :: b = c ++ 58 :: d ↔ a = c ∧ b = d := by
  constructor
  · induction a generalizing c with
    | nil =>
      cases c with
      | nil => intro h; simpa using h
      | cons y c => intro h; simp at h; exact absurd (h.1 ▸ List.mem_cons_self) hc
    | cons x a ih =>
      cases c with
      | nil => intro h; simp at h; exact absurd (h.1 ▸ List.mem_cons_self) ha
      | cons y c =>
        intro h
        simp at h
        obtain ⟨rfl, h⟩ := h
        obtain ⟨rfl, rfl⟩ := ih (fun h => ha (List.mem_cons_of_mem _ h)) (fun h => hc (List.mem_cons_of_mem _ h)) h
        exact ⟨rfl, rfl⟩
  · rintro ⟨rfl, rfl⟩; rfl
theorem step_ref (st : Int × Int) (nm vl : List UInt8) (h : 58 ∉ nm) : cssStep st (nm, vl) = if (refSays nm vl).2.2 = true then cssSay st (refSays nm vl).1 (refSays nm vl).2.1 else st := by
  have e : cssStep st (nm, vl) = if nm ++ 58 :: vl = fontWeight ++ 58 :: bold then cssSay st 1 0 else if nm ++ 58 :: vl = fontWeight ++ 58 :: w700 then cssSay st 1 0 else
    if nm ++ 58 :: vl = fontWeight ++ 58 :: normal then cssSay st 0 1 else if nm ++ 58 :: vl = fontWeight ++ 58 :: w400 then cssSay st 0 1 else
    if nm ++ 58 :: vl = fontStyle ++ 58 :: italic then cssSay st 2 0 else if nm ++ 58 :: vl = fontStyle ++ 58 :: normal then cssSay st 0 2 else
    if nm ++ 58 :: vl = textDeco ++ 58 :: none_ then cssSay st 0 12 else
    if (words vl).2 = true then (if nm = textDeco then cssSay st (words vl).1 (bits .andNot .i64 12 (words vl).1) else st) else st := rfl
  rw [e]
  simp only [colon_inj h (show 58 ∉ fontWeight by decide), colon_inj h (show 58 ∉ fontStyle by decide), colon_inj h (show 58 ∉ textDeco by decide)]
  unfold refSays
  have m1 : ¬ normal = bold := by decide
  have m2 : ¬ normal = w700 := by decide
  have m3 : ¬ w400 = bold := by decide
  have m4 : ¬ w400 = w700 := by decide
  have m5 : ¬ w400 = normal := by decide
  have m6 : ¬ normal = italic := by decide
  by_cases h1 : nm = fontWeight
  · subst h1
    have n1 : ¬ fontWeight = fontStyle := by decide
    have n2 : ¬ fontWeight = textDeco := by decide
    by_cases a1 : vl = bold
    · simp [a1]
    · by_cases a2 : vl = w700
      · simp [a2]
      · by_cases a3 : vl = normal
        · simp [a3, m1, m2]
        · by_cases a4 : vl = w400 <;> simp [a1, a2, a3, a4, n1, n2, m3, m4, m5]
  · by_cases h2 : nm = fontStyle
    · subst h2
      have n1 : ¬ fontStyle = fontWeight := by decide
      have n2 : ¬ fontStyle = textDeco := by decide
      by_cases a1 : vl = italic
      · simp [a1, n1]
      · by_cases a2 : vl = normal <;> simp [a1, a2, n1, n2, m6]
    · by_cases h3 : nm = textDeco
      · subst h3
        have n1 : ¬ textDeco = fontWeight := by decide
        have n2 : ¬ textDeco = fontStyle := by decide
        by_cases a1 : vl = none_
        · simp [a1, n1, n2]
        · rw [words_ref]
          cases refWords 0 (splitL 32 vl) <;> simp [a1, n1, n2, refDeco]
      · simp [h1, h2, h3]
theorem cutL_no : ∀ d : List UInt8, 58 ∉ (cutL d).1
  | [] => by simp [cutL]
  | b :: l => by
    unfold cutL
    split
    · simp
    · rename_i hb
      simp only [List.mem_cons, not_or]
      exact ⟨fun e => hb e.symm, cutL_no l⟩
theorem low_no {l : List UInt8} (h : 58 ∉ l) : 58 ∉ low l := by
  unfold low
  rw [List.mem_map]
  rintro ⟨c, hc, e⟩
  unfold lowc at e
  split at e
  · rename_i h2
    have h3 := UInt8.le_iff_toNat_le.1 h2.1
    have h4 := UInt8.le_iff_toNat_le.1 h2.2
    have := congrArg UInt8.toNat e
    rw [UInt8.toNat_add] at this
    simp at this h3 h4
    omega
  · exact h (e ▸ hc)
theorem trim_no {l : List UInt8} {x c : UInt8} (h : x ∉ l) : x ∉ Lib.trimB l c := by
  unfold Lib.trimB Lib.trimLeftB Lib.trimRightB
  intro hm
  have h1 := (List.dropWhile_suffix _).mem hm
  have h2 := (List.dropWhile_suffix _).mem (List.mem_reverse.1 h1)
  exact h (List.mem_reverse.1 h2)
theorem foldl_filterMap' {α β γ : Type} (f : α → Option β) (g : γ → β → γ) : ∀ (l : List α) (b : γ), (l.filterMap f).foldl g b = l.foldl (fun b x => match f x with | some y => g b y | none => b) b
  | [], _ => rfl
  | x :: l, b => by
    rw [List.foldl_cons]
    cases h : f x with
    | none => rw [List.filterMap_cons_none h]; exact foldl_filterMap' f g l b
    | some y => rw [List.filterMap_cons_some h, List.foldl_cons]; exact foldl_filterMap' f g l _
theorem parse_ref (l : List UInt8) : cssParse l = refParse l := by
  unfold cssParse refParse decls
  rw [foldl_filterMap']
  congr 1
  funext st d
  unfold refStep declOf
  rw [cut_eq]
  by_cases h : (cutL d).2.2 = true
  · rw [if_pos h, if_pos h]
    exact step_ref st _ _ (low_no (trim_no (cutL_no d)))
  · rw [if_neg h, if_neg h]
theorem cutL_at : ∀ (d : List UInt8) (k : Nat), (∀ j, j < k → d[j]? ≠ some 58) → (d[k]? = some 58 → cutL d = (d.take k, d.drop (k + 1), true)) ∧ (k = d.length → cutL d = (d, [], false))
  | [], k, _ => ⟨fun h => by simp at h, fun _ => rfl⟩
  | b :: l, 0, _ => ⟨fun h => by
      simp at h
      subst h
      simp [cutL], fun h => by simp at h⟩
  | b :: l, k + 1, hj => by
    have hb : b ≠ 58 := fun e => hj 0 (by omega) (by simp [e])
    have ih := cutL_at l k (fun j h => by have := hj (j + 1) (by omega); simpa using this)
    constructor
    · intro h
      rw [cutL, if_neg hb, ih.1 (by simpa using h)]
      rfl
    · intro h
      rw [cutL, if_neg hb, ih.2 (by simpa using h)]
end Go.Proofs.Qw
namespace Go.Proofs.YtgeaijnelopkbaaDoor
open Go.RowKit
open Go.Proofs.Qw
theorem ownsRow_set {w : World} {base : Nat} {e : TypeId} {v : Value} {n g c : Nat} {xs : List Value} (h : w.ownsRow base e 1 v n xs) (hv : v = .slice (some ⟨g, 0, none⟩) n c) {i : Nat} (u : Value) : (w.setCell ⟨g, i, none⟩ u).ownsRow base e 1 v n (xs.set i u) := by
  obtain ⟨h1, h2⟩ := h
  refine ⟨by simpa using h1, ?_⟩
  rcases h2 with ⟨rfl, _⟩ | ⟨g', cap, cur, rfl, hg, hh, hn, hm, hs, hx⟩
  · cases hv
  · cases hv
    refine .inr ⟨g, c, cur.setIfInBounds i u, rfl, hg, ?_, hn, hm, by simpa using hs, ?_⟩
    · show (w.heap.modify g _)[g]? = _
      rw [Array.getElem?_modify, if_pos rfl, hh]
      rfl
    · rw [← hx, Array.toList_setIfInBounds, List.take_set]
theorem ownsRow_lit (w : World) (e : TypeId) (u : Value) : (w.alloc (.cells #[u] e)).ownsRow w.heap.size e 1 (.slice (some ⟨w.heap.size, 0, none⟩) 1 1) 1 [u] :=
  ⟨rfl, .inr ⟨w.heap.size, 1, #[u], rfl, Nat.le_refl _, World.alloc_heap_new _ _, Nat.le_refl _, by decide, rfl, rfl⟩⟩
theorem ownsRow_cell {w : World} {base : Nat} {e : TypeId} {n g c : Nat} {xs : List Value} (h : w.ownsRow base e 1 (.slice (some ⟨g, 0, none⟩) n c) n xs) {i : Nat} {u : Value} (hi : xs[i]? = some u) : w.cell? ⟨g, i, none⟩ = some u ∧ w.frozen? ⟨g, i, none⟩ = false := by
  have := h.cells (g := g) rfl i u hi
  rw [show (⟨g, 0, none⟩ : Addr).add i = ⟨g, i, none⟩ by unfold Addr.add; split <;> simp_all] at this
  refine ⟨this, ?_⟩
  obtain ⟨_, ⟨h, _⟩ | ⟨g', cap, cur, hv, _, hh, _⟩⟩ := h
  · cases h
  · cases hv
    rw [World.frozen?, hh]
    simp
theorem extract_one (s : ByteArray) (k : Nat) (h : k < s.size) : (s.extract k (k + 1)).data = #[s[k]] := by
  have h' : k < s.data.size := h
  apply Array.ext'
  rw [ByteArray.data_extract, Array.toList_extract]
  simp only [List.extract_eq_take_drop, Nat.add_sub_cancel_left]
  rw [List.drop_eq_getElem_cons (by simpa using h')]
  simp
  rfl
theorem splitL_same (c : UInt8) (s : List UInt8) : splitL c (s ++ [c]) = splitL c s ++ [[]] := by
  have := splitL_app c [] s
  simpa [splitL] using this
set_option maxRecDepth 100000 in
set_option maxHeartbeats 1000000 in
theorem refSplit_any (s : ByteArray) (c : UInt8) (w : World) (hs : s.size ≤ 100000) :
    Calls Tryd.prog 54 #[.string s, .int .u8 (c.toNat : Int)] w fun e w' => ∃ v, e = .returned v ∧ w'.ownsRow w.heap.size 9 1 v (splitL c s.data.toList).length ((splitL c s.data.toList).map strV) ∧ Below w.heap.size w w' := by
  obtain ⟨i0, hi, hz0, hz1, hz2⟩ := info_parts Tryd.infoStr
  go_enter Tryd.func54, Tryd.ntmps54
  go_wp2_with fail
  have h0 := ownsRow_lit w 9 (.string ⟨#[]⟩)
  have hb0 : Below w.heap.size w (w.alloc (.cells #[.string ⟨#[]⟩] 9)) := (Below.refl _ _).alloc (Nat.le_refl _) _
  have H0 := Lib.hid h0
  have HB0 := Lib.hid hb0
  clear h0 hb0
  go_loopw [5, 6] (fun o i wr => ∃ (k : Nat) (ls : List (List UInt8)) (x : List UInt8) (g cap : Nat), k ≤ s.size ∧ i = .int .i64 k ∧ o = .slice (some ⟨g, 0, none⟩) (ls.length + 1) cap ∧ splitL c (s.data.toList.take k) = ls ++ [x] ∧ ls.length ≤ k ∧
      wr.ownsRow w.heap.size 9 1 o (ls.length + 1) ((ls ++ [x]).map strV) ∧ Below w.heap.size w wr) (fun _ i _ => s.size - (intOf i).toNat)
  case atStart => exact ⟨0, [], [], w.heap.size, 1, by omega, rfl, rfl, rfl, by simp, H0.out, HB0.out⟩
  case round =>
    obtain ⟨k, ls, x, g, cap, hk, rfl, rfl, hsp, hll, hrow, hb⟩ := hrel
    have HSP := Lib.hid hsp
    clear hsp
    by_cases hlt : k < s.size
    · have hbt : s.data.toList[k]? = some s[k] := by rw [Array.getElem?_toList, Array.getElem?_eq_getElem hlt]; rfl
      have htk := take_snoc hbt
      by_cases hc : s[k] = c
      · have ht : ((s[k].toNat : Int) == (c.toNat : Int)) = true := by rw [hc]; simp
        have HN : Hid (splitL c (s.data.toList.take (k + 1)) = (ls ++ [x]) ++ [[]]) := Lib.hid (by rw [htk, hc, splitL_same, HSP.out])
        have hB : w.heap.size ≤ wr.heap.size := hb.size
        clear hbt htk hc
        go_wp2_with (at_builtin; refine wpList_append_own _ rfl _ _ 69 rfl w.heap.size 9 i0 (.string ⟨#[]⟩) 1 16 Tryd.underlying69 hi hz0 hz1 hz2 rfl (by decide) _ _ _ rfl (hrow.alloc _) ⟨wr.heap.size, 0, none⟩ 1 1 [strV []] rfl rfl (cell_one_new _ _ _) (by simp [Value.oneCell', strV]) (by unfold maxLen; omega) (by omega) (by simp; omega) ?_; intro v' w1 hown' hgrow _; have HB1 := Lib.hid (hb.trans (below_append hrow hB hgrow)); obtain ⟨g', cap', rfl⟩ := ownsRow_succ hown'; have HO := Lib.hid hown'; clear hown' hgrow)
        go_roundw
        case rel =>
          refine ⟨k + 1, ls ++ [x], [], g', cap', by omega, by go_num, by simp, HN.out, by simp; omega, ?_, HB1.out⟩
          have := HO.out
          rw [List.map_append, List.length_append]
          exact this
        case measure => simp [intOf]; omega
      · have ht : ((s[k].toNat : Int) == (c.toNat : Int)) = false := by
          rw [beq_eq_false_iff_ne]
          intro e
          exact hc (UInt8.toNat_inj.1 (by omega))
        obtain ⟨ls', x', h1, h2⟩ := splitL_snoc c s[k] hc (s.data.toList.take k)
        rw [HSP.out] at h1
        obtain ⟨e1, e2⟩ := List.append_inj' h1 rfl
        cases e2
        subst e1
        have HN : Hid (splitL c (s.data.toList.take (k + 1)) = ls ++ [x ++ [s[k]]]) := Lib.hid (by rw [htk]; exact h2)
        obtain ⟨hcl, hfl⟩ := ownsRow_cell hrow (i := ls.length) (u := strV x) (by simp)
        unfold strV at hcl
        have hE : (⟨x.toArray⟩ ++ s.extract k (k + 1) : ByteArray) = ⟨(x ++ [s[k]]).toArray⟩ := by
          apply ByteArray.ext
          rw [ByteArray.data_append, extract_one s k hlt]
          simp
        have hxl : x.length ≤ 100000 := by
          have := splitL_le c (s.data.toList.take k) x (by rw [HSP.out]; simp)
          have h3 : (s.data.toList.take k).length ≤ k := List.length_take_le _ _
          omega
        have hcat : ¬ 9223372036854775807 < x.length + (min (k + 1) s.size - k) := by omega
        have hw1 : IntKind.i64.wrap (ls.length : Int) = ls.length := IntWalk.i64_in _ (by omega)
        have hw2 : IntKind.i64.wrap ((k : Int) + 1) = k + 1 := IntWalk.i64_in _ (by omega)
        clear hbt htk hc h1 h2
        go_wp2
        go_region
        go_wp2
        go_roundw
        case rel =>
          refine ⟨k + 1, ls, x ++ [s[k]], g, cap, by omega, by go_num, rfl, HN.out, by omega, ?_, (hb.setCell (hrow.lt g rfl).1 _).drew⟩
          have := ownsRow_set hrow rfl (i := ls.length) (strV (x ++ [s[k]]))
          rw [show (List.map strV (ls ++ [x])).set ls.length (strV (x ++ [s[k]])) = List.map strV (ls ++ [x ++ [s[k]]]) by simp] at this
          exact this
        case measure => simp [intOf]; omega
    · obtain rfl : k = s.size := by omega
      have hT : s.data.toList.take s.size = s.data.toList := List.take_of_length_le (by rw [Array.length_toList]; exact Nat.le_refl _)
      have HR : Hid (wr.ownsRow w.heap.size 9 1 (.slice (some ⟨g, 0, none⟩) (ls.length + 1) cap) (splitL c s.data.toList).length ((splitL c s.data.toList).map strV)) := Lib.hid (by
        rw [← hT, HSP.out, List.length_append]; exact hrow)
      have HB := Lib.hid hb
      clear hrow hb hT
      go_wp2
      go_ret
      exact ⟨_, rfl, HR.out, HB.out⟩
theorem extract_to (s : ByteArray) (k : Nat) : (s.extract k s.size).data.toList = s.data.toList.drop k := by
  rw [ByteArray.data_extract, Array.toList_extract]
  simp only [List.extract_eq_take_drop]
  exact List.take_of_length_le (by rw [List.length_drop, Array.length_toList]; exact Nat.le_refl _)
theorem extract_from (s : ByteArray) (k : Nat) : (s.extract 0 k).data.toList = s.data.toList.take k := by
  rw [ByteArray.data_extract, Array.toList_extract]
  simp only [List.extract_eq_take_drop, Nat.sub_zero, List.drop_zero]
theorem getB (s : ByteArray) (k : Nat) (h : k < s.size) : s.data.toList[k]? = some s[k] := by rw [Array.getElem?_toList, Array.getElem?_eq_getElem h]; rfl
theorem trim_head {s : ByteArray} (h : 0 < s.size) (hb : s[0] = 32) : Lib.trimB (s.extract 1 s.size).data.toList 32 = Lib.trimB s.data.toList 32 := by
  have h0 := getB s 0 h
  rw [extract_to]
  match hl : s.data.toList with
  | [] => rw [hl] at h0; cases h0
  | b :: l =>
    rw [hl] at h0
    cases h0
    rw [hb, trimB_cons]
    rfl
theorem trim_last {s : ByteArray} (h : 0 < s.size) (hb : s[s.size - 1] = 32) : Lib.trimB (s.extract 0 (s.size - 1)).data.toList 32 = Lib.trimB s.data.toList 32 := by
  have h0 := getB s (s.size - 1) (by omega)
  have e : s.data.toList = s.data.toList.take (s.size - 1) ++ [32] := by
    rw [← hb, ← take_snoc h0, show s.size - 1 + 1 = s.size by omega, List.take_of_length_le (by rw [Array.length_toList]; exact Nat.le_refl _)]
  rw [extract_from]
  conv => rhs; rw [e]
  rw [trimB_snoc]
theorem trim_done {s : ByteArray} (h1 : ∀ h : 0 < s.size, s[0] ≠ 32) (h2 : ∀ h : 0 < s.size, s[s.size - 1] ≠ 32) : Lib.trimB s.data.toList 32 = s.data.toList := by
  rcases Nat.eq_zero_or_pos s.size with h | h
  · have : s.data.toList = [] := List.length_eq_zero_iff.1 (by rw [Array.length_toList]; exact h)
    rw [this]; rfl
  · have a1 := getB s 0 h
    have a2 := getB s (s.size - 1) (by omega)
    have n1 := h1 h
    have n2 := h2 h
    have hlen : s.data.toList.length = s.size := Array.length_toList
    generalize s[0] = x at *
    generalize s[s.size - 1]'(by omega) = y at *
    unfold Lib.trimB Lib.trimRightB Lib.trimLeftB
    have e2 : s.data.toList.reverse.dropWhile (· == 32) = s.data.toList.reverse := by
      match hr : s.data.toList.reverse with
      | [] => rfl
      | z :: r =>
        have : s.data.toList.reverse[0]? = some y := by
          rw [List.getElem?_reverse (by omega), hlen, Nat.sub_zero]
          exact a2
        rw [hr] at this
        cases this
        rw [List.dropWhile_cons_of_neg (by simpa using n2)]
    rw [e2, List.reverse_reverse]
    match hl : s.data.toList with
    | [] => rfl
    | z :: r =>
      rw [hl] at a1
      cases a1
      rw [List.dropWhile_cons_of_neg (by simpa using n1)]
def strSize : Value → Nat
  | .string t => t.size
  | _ => 0
theorem Tryd.infoByte : (Tryd.prog.info? 5).map (fun i => (i.zero, i.size, i.bytes)) = some (some (.int .u8 0), 1, 1) := by kernel_rfl
theorem string_row {w : World} {n : Nat} {v : Value} {l : List UInt8} (h : w.ownsRow n 5 1 v l.length (bv l)) : (convert 75 9 v).run Tryd.prog w = .ok (.string ⟨l.toArray⟩) w := by
  obtain ⟨h1, ⟨rfl, h2⟩ | ⟨g, cap, cur, rfl, _⟩⟩ := id h
  · have : l = [] := List.length_eq_zero_iff.1 h2
    subst this
    exact run_convert_bytes_nil w 75 5 Tryd.underlying75 Tryd.underlying5 0 0 9 Tryd.underlying9
  · refine run_convert_bytes_back w 75 9 5 ⟨g, 0, none⟩ cap l Tryd.underlying75 Tryd.underlying5 Tryd.underlying9 (fun j hj => ?_)
    exact h.cells (g := g) rfl j _ (bv_get (List.getElem?_eq_getElem hj))
set_option maxRecDepth 100000 in
set_option maxHeartbeats 4000000 in
theorem refTrim_any (s : ByteArray) (w : World) (hs : s.size ≤ 100000) :
    Calls Tryd.prog 56 #[.string s] w fun e w' => e = .returned (.string ⟨(low (Lib.trimB s.data.toList 32)).toArray⟩) ∧ Below w.heap.size w w' := by
  go_enter Tryd.func56, Tryd.ntmps56
  go_wp2_with fail
  go_loop [0] (fun v => ∃ t : ByteArray, v = .string t ∧ t.size ≤ s.size ∧ Lib.trimB t.data.toList 32 = Lib.trimB s.data.toList 32) (fun v => strSize v)
  case atStart => exact ⟨s, rfl, Nat.le_refl _, rfl⟩
  case round =>
    obtain ⟨t, rfl, hts, htr⟩ := hrel
    have HTR := Lib.hid htr
    clear htr
    by_cases hz : ∃ h : 0 < t.size, t[0] = 32
    · obtain ⟨hz, hb⟩ := hz
      have hbt : ((t[0].toNat : Int) == 32) = true := by rw [hb]; rfl
      have HN := Lib.hid ((trim_head hz hb).trans HTR.out)
      clear hb
      go_wp2
      go_round
      case rel => exact ⟨_, rfl, by rw [ByteArray.size_extract]; omega, HN.out⟩
      case measure => simp [strSize]; omega
    · have HH : Hid (∀ h : 0 < t.size, t[0] ≠ 32) := Lib.hid fun h e => hz ⟨h, e⟩
      clear hz
      have hw : t.size ≤ 0 ∨ ∃ h : 0 < t.size, ((t[0].toNat : Int) == 32) = false := by
        rcases Nat.eq_zero_or_pos t.size with h | h
        · exact .inl (by omega)
        · exact .inr ⟨h, by rw [beq_eq_false_iff_ne]; intro e; exact HH.out h (UInt8.toNat_inj.1 (by simpa using Int.ofNat.inj e))⟩
      rcases hw with hw | ⟨hw, hw2⟩
      all_goals
        go_wp2_with fail
        go_loop [0] (fun v => ∃ u : ByteArray, v = .string u ∧ u.size ≤ s.size ∧ Lib.trimB u.data.toList 32 = Lib.trimB s.data.toList 32 ∧ ∀ h : 0 < u.size, u[0] ≠ 32) (fun v => strSize v)
        case atStart => exact ⟨t, rfl, hts, HTR.out, HH.out⟩
        case round =>
          obtain ⟨u, rfl, hus, hut, huh⟩ := hrel
          have HUT := Lib.hid hut
          have HUH := Lib.hid huh
          clear hut huh
          by_cases hz : ∃ h : 0 < u.size, u[u.size - 1] = 32
          · obtain ⟨hz, hb⟩ := hz
            have hbt : ((u[u.size - 1].toNat : Int) == 32) = true := by rw [hb]; rfl
            have HN := Lib.hid ((trim_last hz hb).trans HUT.out)
            have HM : Hid (∀ h : 0 < (u.extract 0 (u.size - 1)).size, (u.extract 0 (u.size - 1))[0] ≠ 32) := Lib.hid (by
              intro h e
              have h' := h
              rw [ByteArray.size_extract] at h'
              have h1 := getB (u.extract 0 (u.size - 1)) 0 h
              rw [e, extract_from, List.getElem?_take_of_lt (by omega), getB u 0 (by omega)] at h1
              exact HUH.out hz (Option.some.inj h1))
            clear hb
            go_wp2_with fail
            go_round
            case rel => exact ⟨_, rfl, by rw [ByteArray.size_extract]; omega, HN.out, HM.out⟩
            case measure => simp [strSize]; omega
          · have HL : Hid (∀ h : 0 < u.size, u[u.size - 1] ≠ 32) := Lib.hid fun h e => hz ⟨h, e⟩
            have HD : Hid (u.data.toList = Lib.trimB s.data.toList 32) := Lib.hid (by rw [← HUT.out]; exact (trim_done HUH.out HL.out).symm)
            clear hz HUT
            have hw : u.size ≤ 0 ∨ ∃ h : 0 < u.size, ((u[u.size - 1].toNat : Int) == 32) = false := by
              rcases Nat.eq_zero_or_pos u.size with h | h
              · exact .inl (by omega)
              · exact .inr ⟨h, by rw [beq_eq_false_iff_ne]; intro e; exact HL.out h (UInt8.toNat_inj.1 (by simpa using Int.ofNat.inj e))⟩
            rcases hw with hw | ⟨hw, hw2⟩
            all_goals
              go_wp2_with fail
              obtain ⟨i0, hi, hz0, hz1, hz2⟩ := info_parts Tryd.infoByte
              try clear hw2
              clear hw
              go_loopw [3, 4, 5] (fun b i _ wr => ∃ k : Nat, k ≤ u.size ∧ i = .int .i64 k ∧ wr.ownsRow w.heap.size 5 1 b k (bv (low (u.data.toList.take k))) ∧ Below w.heap.size w wr) (fun _ i _ _ => u.size - (intOf i).toNat)
              case atStart => exact ⟨0, by omega, rfl, World.ownsRow_nil _ _ _ _, Below.refl _ _⟩
              case round =>
                obtain ⟨k, hk, rfl, hrow, hb⟩ := hrel
                by_cases hlt : k < u.size
                · have hB : w.heap.size ≤ wr.heap.size := hb.size
                  have hst := take_snoc (getB u k hlt)
                  have HS : Hid (bv (low (u.data.toList.take (k + 1))) = bv (low (u.data.toList.take k)) ++ [.int .u8 ((lowc u[k]).toNat : Int)]) := Lib.hid (by rw [hst]; simp [low, bv])
                  clear hst
                  by_cases hc : 65 ≤ (u[k].toNat : Int) ∧ (u[k].toNat : Int) ≤ 90
                  · obtain ⟨c1, c2⟩ := hc
                    have HE := Lib.hid (lowc_yes c1 c2)
                    first
                    | (exfalso; omega)
                    | (go_wp2_with (at_builtin; refine wpList_append_own _ rfl _ _ 75 rfl w.heap.size 5 i0 (.int .u8 0) 1 1 Tryd.underlying75 hi hz0 hz1 hz2 rfl (by decide) _ _ _ rfl (hrow.alloc _) ⟨wr.heap.size, 0, none⟩ 1 1 [.int .u8 ((u[k].toNat : Int) + 32)] rfl rfl (cell_one_new _ _ _) (by simp [Value.oneCell']) (by unfold maxLen; omega) (by omega) (by simp; omega) ?_; intro v' w1 hown' hgrow _; have HB1 := Lib.hid (hb.trans (below_append hrow hB hgrow)); have HO := Lib.hid hown'; clear hown' hgrow)
                       go_roundw
                       case rel => exact ⟨k + 1, by omega, by go_num, by rw [HS.out, ← HE.out]; exact HO.out, HB1.out⟩
                       case measure => simp [intOf]; omega)
                  · have HE := Lib.hid (lowc_no hc)
                    have hc' : ¬ 65 ≤ (u[k].toNat : Int) ∨ (65 ≤ (u[k].toNat : Int) ∧ ¬ (u[k].toNat : Int) ≤ 90) := by omega
                    rcases hc' with c1 | ⟨c1, c2⟩
                    all_goals
                      first
                      | (exfalso; omega)
                      | (go_wp2_with (at_builtin; refine wpList_append_own _ rfl _ _ 75 rfl w.heap.size 5 i0 (.int .u8 0) 1 1 Tryd.underlying75 hi hz0 hz1 hz2 rfl (by decide) _ _ _ rfl (hrow.alloc _) ⟨wr.heap.size, 0, none⟩ 1 1 [.int .u8 (u[k].toNat : Int)] rfl rfl (cell_one_new _ _ _) (by simp [Value.oneCell']) (by unfold maxLen; omega) (by omega) (by simp; omega) ?_; intro v' w1 hown' hgrow _; have HB1 := Lib.hid (hb.trans (below_append hrow hB hgrow)); have HO := Lib.hid hown'; clear hown' hgrow)
                         go_roundw
                         case rel => exact ⟨k + 1, by omega, by go_num, by rw [HS.out, HE.out]; exact HO.out, HB1.out⟩
                         case measure => simp [intOf]; omega)
                · obtain rfl : k = u.size := by omega
                  have hT : u.data.toList.take u.size = u.data.toList := List.take_of_length_le (by rw [Array.length_toList]; exact Nat.le_refl _)
                  rw [hT] at hrow
                  have hst := string_row (l := low u.data.toList) (by rw [low_length, Array.length_toList]; exact hrow)
                  rw [HD.out] at hst
                  have HB := Lib.hid hb
                  clear hrow hb hT
                  go_wp2
                  go_ret
                  exact ⟨rfl, HB.out⟩
end Go.Proofs.YtgeaijnelopkbaaDoor
namespace Go.Proofs.YtgeaijnelopkbaaDoor
open Go.RowKit
open Go.Proofs.Qw
theorem beq_yes {b : ByteArray} {l : List UInt8} (h : b.data.toList = l) : (b.toList == l) = true := by rw [toList_eq]; exact beq_iff_eq.2 h
theorem beq_no {b : ByteArray} {l : List UInt8} (h : ¬ b.data.toList = l) : (b.toList == l) = false := by rw [toList_eq]; exact beq_eq_false_iff_ne.2 h
theorem notE {b : ByteArray} (h : (!b.toList.isEmpty) = true) : b.data.toList ≠ [] := ne_of_empty (by simpa using h)
theorem isE {b : ByteArray} (h : (!b.toList.isEmpty) = false) : b.data.toList = [] := nil_of_empty (by simpa using h)
theorem beq_dec (a b : List UInt8) : (a == b) = decide (a = b) := by rw [Bool.eq_iff_iff, beq_iff_eq, decide_eq_true_iff]
def triple (x : Int × Int × Bool) : Value := .tuple #[.int .i64 x.1, .int .i64 x.2.1, .bool x.2.2]
set_option maxRecDepth 100000 in
set_option maxHeartbeats 4000000 in
theorem refSays_any (nm vl : ByteArray) (w : World) (hs : vl.size ≤ 100000) :
    Calls Tryd.prog 55 #[.string nm, .string vl] w fun e w' => e = .returned (triple (refSays nm.data.toList vl.data.toList)) ∧ Below w.heap.size w w' := by
  by_cases h3 : nm.data.toList = textDeco
  · have t1 : (nm.toList == [102, 111, 110, 116, 45, 119, 101, 105, 103, 104, 116]) = false := beq_no (by rw [h3]; decide)
    have t2 : (nm.toList == [102, 111, 110, 116, 45, 115, 116, 121, 108, 101]) = false := beq_no (by rw [h3]; decide)
    have t3 : (nm.toList == [116, 101, 120, 116, 45, 100, 101, 99, 111, 114, 97, 116, 105, 111, 110]) = true := beq_yes h3
    have n1 : ¬ textDeco = fontWeight := by decide
    have n2 : ¬ textDeco = fontStyle := by decide
    by_cases a1 : vl.data.toList = none_
    · have b1 : (vl.toList == [110, 111, 110, 101]) = true := beq_yes a1
      have HR : Hid (refSays nm.data.toList vl.data.toList = (0, 12, true)) := Lib.hid (by simp [refSays, h3, a1, n1, n2])
      rw [HR.out, triple]
      clear h3 a1 n1 n2
      go_enter Tryd.func55, Tryd.ntmps55
      go_wp2_with fail
      go_ret3
      exact ⟨rfl, Below.refl _ _⟩
    · have b1 : (vl.toList == [110, 111, 110, 101]) = false := beq_no a1
      have HR : Hid (refSays nm.data.toList vl.data.toList = refDeco (refWords 0 (splitL 32 vl.data.toList))) := Lib.hid (by simp [refSays, h3, a1, n1, n2])
      rw [HR.out]
      clear h3 a1 n1 n2
      have hxl := splitL_len 32 vl.data.toList
      have hne := splitL_ne 32 vl.data.toList
      have h2 : vl.data.toList.length = vl.size := Array.length_toList
      rw [h2] at hxl
      generalize hxs : splitL 32 vl.data.toList = xs at *
      have HXS := Lib.hid hxs
      clear hxs h2
      go_enter Tryd.func55, Tryd.ntmps55
      go_wp2_with fail
      refine (refSplit_any vl 32 w hs).mono ?_
      rintro e w1 ⟨v, rfl, hrow, hb⟩
      rw [HXS.out] at hrow
      obtain ⟨m, hm⟩ : ∃ m, xs.length = m + 1 := ⟨xs.length - 1, by have := List.length_pos_iff.2 hne; omega⟩
      have hml : m ≤ 100000 := by omega
      have HR0 := Lib.hid hrow
      rw [hm] at hrow
      obtain ⟨g, cap, rfl⟩ := ownsRow_succ hrow
      have HM := Lib.hid hm
      have HRW := Lib.hid hrow
      have HB := Lib.hid hb
      clear hm hrow hb hxl hne HR HR0
      go_wp2_with fail
      go_loop [8, 9] (fun b i => ∃ (k : Nat) (bb : Int), k ≤ m + 1 ∧ i = .int .i64 k ∧ b = .int .i64 bb ∧ refWords 0 xs = refWords bb (xs.drop k)) (fun _ i => m + 1 - (intOf i).toNat)
      case atStart => exact ⟨0, 0, by omega, rfl, rfl, rfl⟩
      case round =>
        obtain ⟨k, bb, hk, rfl, rfl, hg⟩ := hrel
        have HG := Lib.hid hg
        clear hg
        by_cases hlt : k < m + 1
        · obtain ⟨xl, hx, hd⟩ := getOf xs k (by rw [HM.out]; exact hlt)
          obtain ⟨hcl, _⟩ := ownsRow_cell HRW.out (i := k) (u := strV xl) (by simp [hx])
          unfold strV at hcl
          obtain ⟨x, hxx⟩ : ∃ x : ByteArray, (⟨xl.toArray⟩ : ByteArray) = x := ⟨_, rfl⟩
          have HX : Hid (x.data.toList = xl) := Lib.hid (by rw [← hxx])
          rw [hxx] at hcl
          have HD := Lib.hid hd
          clear hd hx hxx
          go_wp2
          · go_round
            case rel => exact ⟨k + 1, _, by omega, by go_num, rfl, by rw [HG.out, HD.out, ← HX.out, refWords1 (eq_of_beq ‹_›)]⟩
            case measure => simp [intOf]; omega
          · go_round
            case rel => exact ⟨k + 1, _, by omega, by go_num, rfl, by rw [HG.out, HD.out, ← HX.out, refWords2 (ne_of_beq ‹(x.toList == [117, 110, 100, 101, 114, 108, 105, 110, 101]) = false›) (eq_of_beq ‹_›)]⟩
            case measure => simp [intOf]; omega
          · go_ret3
            refine ⟨?_, HB.out⟩
            rw [HG.out, HD.out, ← HX.out, refWords4 (ne_of_beq ‹(x.toList == [117, 110, 100, 101, 114, 108, 105, 110, 101]) = false›) (ne_of_beq ‹(x.toList == [108, 105, 110, 101, 45, 116, 104, 114, 111, 117, 103, 104]) = false›) (notE ‹_›)]
            rfl
          · go_round
            case rel => exact ⟨k + 1, _, by omega, by go_num, rfl, by rw [HG.out, HD.out, ← HX.out, refWords3 (ne_of_beq ‹(x.toList == [117, 110, 100, 101, 114, 108, 105, 110, 101]) = false›) (ne_of_beq ‹(x.toList == [108, 105, 110, 101, 45, 116, 104, 114, 111, 117, 103, 104]) = false›) (isE ‹_›)]⟩
            case measure => simp [intOf]; omega
        · obtain rfl : k = m + 1 := by omega
          rw [List.drop_eq_nil_of_le (by rw [HM.out]; exact Nat.le_refl _)] at HG
          go_wp2
          go_ret3
          refine ⟨?_, HB.out⟩
          rw [HG.out]
          rfl
  · have t3 : (nm.toList == [116, 101, 120, 116, 45, 100, 101, 99, 111, 114, 97, 116, 105, 111, 110]) = false := beq_no h3
    have H3 := Lib.hid h3
    clear h3
    go_enter Tryd.func55, Tryd.ntmps55
    go_wp2_with fail
    all_goals go_ret3
    all_goals refine ⟨?_, Below.refl _ _⟩
    all_goals simp only [toList_eq, beq_iff_eq, beq_eq_false_iff_ne, ne_eq] at *
    all_goals have h3 := H3.out
    all_goals simp only [textDeco] at h3
    all_goals by_cases z : vl.data.toList = [55, 48, 48]
    all_goals simp_all [refSays, triple, fontWeight, fontStyle, textDeco, bold, w700, normal, w400, italic]
    all_goals first | exact beq_dec _ _ | (rw [Bool.eq_iff_iff]; simp_all)
end Go.Proofs.YtgeaijnelopkbaaDoor
namespace Go.Proofs.YtgeaijnelopkbaaDoor
open Go.RowKit
open Go.Proofs.Qw
theorem trim_size (l : List UInt8) (h : l.length ≤ 100000) : (⟨(low (Lib.trimB l 32)).toArray⟩ : ByteArray).size ≤ 100000 := by
  have h1 := trimB_le l 32
  have h3 : (⟨(low (Lib.trimB l 32)).toArray⟩ : ByteArray).size = (low (Lib.trimB l 32)).length := by simp [ByteArray.size]
  rw [h3, low_length]
  omega
theorem refSays_tup (nm vl : ByteArray) (w : World) (hs : vl.size ≤ 100000) :
    Calls Tryd.prog 55 #[.string nm, .string vl] w fun e w' => e = .returned (.tuple #[.int .i64 (refSays nm.data.toList vl.data.toList).1, .int .i64 (refSays nm.data.toList vl.data.toList).2.1, .bool (refSays nm.data.toList vl.data.toList).2.2]) ∧ Below w.heap.size w w' := refSays_any nm vl w hs
set_option maxRecDepth 100000 in
set_option maxHeartbeats 4000000 in
theorem refParse_any (s : ByteArray) (w : World) (hs : s.size ≤ 50000) :
    Calls Tryd.prog 36 #[.string s] w fun e w' => e = .returned (.tuple #[.int .i64 (refParse s.data.toList).1, .int .i64 (refParse s.data.toList).2]) ∧ Below w.heap.size w w' := by
  have hxl := splitL_len 59 s.data.toList
  have hne := splitL_ne 59 s.data.toList
  have h2 : s.data.toList.length = s.size := Array.length_toList
  rw [h2] at hxl
  have HLE : Hid (∀ (k : Nat) x, (splitL 59 s.data.toList)[k]? = some x → x.length ≤ 50000) := Lib.hid fun k x hx => by
    have := splitL_le 59 s.data.toList x (List.mem_of_getElem? hx)
    omega
  have HF : Hid (refParse s.data.toList = (splitL 59 s.data.toList).foldl refStep (0, 0)) := Lib.hid rfl
  generalize hxs : splitL 59 s.data.toList = xs at *
  have HXS := Lib.hid hxs
  clear hxs h2
  go_enter Tryd.func36, Tryd.ntmps36
  go_wp2_with fail
  refine (refSplit_any s 59 w (by omega)).mono ?_
  rintro e w1 ⟨v, rfl, hrow, hb⟩
  rw [HXS.out] at hrow
  obtain ⟨m, hm⟩ : ∃ m, xs.length = m + 1 := ⟨xs.length - 1, by have := List.length_pos_iff.2 hne; omega⟩
  have hml : m ≤ 100000 := by omega
  rw [hm] at hrow
  obtain ⟨g, cap, rfl⟩ := ownsRow_succ hrow
  have hg1 : g < w1.heap.size := (hrow.lt g rfl).2
  have HM := Lib.hid hm
  have HRW := Lib.hid hrow
  have HB := Lib.hid hb
  clear hm hrow hb hxl hne
  go_wp2_with fail
  go_loopw [5, 6, 7, 8, 9, 10, 11] (fun a b i _ _ _ _ wr => ∃ (k : Nat) (st : Int × Int), k ≤ m + 1 ∧ i = .int .i64 k ∧ a = .int .i64 st.1 ∧ b = .int .i64 st.2 ∧ xs.foldl refStep (0, 0) = (xs.drop k).foldl refStep st ∧ Below w1.heap.size w1 wr) (fun _ _ i _ _ _ _ _ => m + 1 - (intOf i).toNat)
  case atStart => exact ⟨0, (0, 0), by omega, rfl, rfl, rfl, rfl, Below.refl _ _⟩
  case round =>
    obtain ⟨k, st, hk, rfl, rfl, rfl, hg, hb⟩ := hrel
    have HG := Lib.hid hg
    clear hg
    by_cases hlt : k < m + 1
    · obtain ⟨xl, hx, hd⟩ := getOf xs k (by rw [HM.out]; exact hlt)
      obtain ⟨hcl, _⟩ := ownsRow_cell HRW.out (i := k) (u := strV xl) (by simp [hx])
      unfold strV at hcl
      have hxs := HLE.out k xl hx
      obtain ⟨x, hxx⟩ : ∃ x : ByteArray, (⟨xl.toArray⟩ : ByteArray) = x := ⟨_, rfl⟩
      have HX : Hid (x.data.toList = xl) := Lib.hid (by rw [← hxx])
      have hsz : x.size ≤ 50000 := by rw [← hxx]; simpa [ByteArray.size] using hxs
      rw [hxx] at hcl
      have HD := Lib.hid hd
      have hcr : wr.cell? ⟨g, k, none⟩ = some (.string x) := (hb.cell (p := ⟨g, k, none⟩) hg1).trans hcl
      clear hd hx hxx hcl hxs
      go_wp2_with fail
      go_loop [8] (fun a => ∃ j : Nat, j ≤ x.size ∧ a = .int .i64 j ∧ ∀ i, i < j → x.data.toList[i]? ≠ some 58) (fun a => x.size - (intOf a).toNat)
      case atStart => exact ⟨0, by omega, rfl, fun i hi => by omega⟩
      case round =>
        obtain ⟨j, hj, rfl, hno⟩ := hrel
        have HN := Lib.hid hno
        clear hno
        by_cases hjl : j < x.size
        · by_cases hc : x[j] = 58
          · have ht : ((x[j].toNat : Int) != 58) = false := by rw [hc]; rfl
            have HC : Hid (cutL xl = (xl.take j, xl.drop (j + 1), true)) := Lib.hid ((cutL_at xl j (by rw [← HX.out]; exact HN.out)).1 (by rw [← HX.out, getB x j hjl, hc]))
            clear hc
            go_wp2_with fail
            have hi1 : (0 : Int) ≤ (k : Int) := by omega
            have hi2 : (k : Int) < (m : Int) + 1 := by omega
            have hi3 : (0 : Int) ≤ (j : Int) := by omega
            have hi4 : (j : Int) ≤ (x.size : Int) := by omega
            have hi5 : IntKind.i64.wrap ((j : Int) + 1) = (j : Int) + 1 := IntWalk.i64_in _ (by omega)
            have hi6 : (0 : Int) ≤ (j : Int) + 1 := by omega
            have hi7 : (j : Int) + 1 ≤ (x.size : Int) := by omega
            have hi8 : ((j : Int) + 1).toNat = j + 1 := by omega
            have hgr : g < wr.heap.size := Nat.lt_of_lt_of_le hg1 hb.size
            obtain ⟨y1, hy1⟩ : ∃ y, x.extract 0 j = y := ⟨_, rfl⟩
            obtain ⟨y2, hy2⟩ : ∃ y, x.extract (j + 1) x.size = y := ⟨_, rfl⟩
            have HY1 : Hid (y1.data.toList = xl.take j) := Lib.hid (by rw [← hy1, extract_from, HX.out])
            have HY2 : Hid (y2.data.toList = xl.drop (j + 1)) := Lib.hid (by rw [← hy2, extract_to, HX.out])
            have z1 : y1.size ≤ 100000 := by rw [← hy1, ByteArray.size_extract]; omega
            have z2 : y2.size ≤ 100000 := by rw [← hy2, ByteArray.size_extract]; omega
            have z3 := trim_size y2.data.toList (by rw [Array.length_toList]; exact z2)
            obtain ⟨a1, ha1⟩ : ∃ a, refSays (low (Lib.trimB y1.data.toList 32)) (low (Lib.trimB y2.data.toList 32)) = a := ⟨_, rfl⟩
            have HA : Hid (refStep st xl = if a1.2.2 = true then cssSay st a1.1 a1.2.1 else st) := Lib.hid (by rw [refStep, HC.out, if_pos rfl, ← HY1.out, ← HY2.out, ha1])
            go_region_held3 (fun w' => w'.cell? ⟨g, k, none⟩ = some (.string x)) (first | assumption)
              (first
                | (go_at_call_of 56 y1; refine (refTrim_any y1 _ z1).mono ?_; rintro e w9 ⟨rfl, hb9⟩; have hg9 : g < w9.heap.size := Nat.lt_of_lt_of_le (by first | exact hgr | assumption) hb9.size; have hbb9 : Below w1.heap.size w1 w9 := below_from (by first | assumption | exact hb.drew) hb9; have hq9 := (hb9.cell (p := ⟨g, k, none⟩) (by first | exact hgr | assumption)).trans (by first | exact hcr | assumption))
                | (go_at_call_of 56 y2; refine (refTrim_any y2 _ z2).mono ?_; rintro e w8 ⟨rfl, hb9⟩; have hg9 : g < w8.heap.size := Nat.lt_of_lt_of_le (by first | exact hgr | assumption) hb9.size; have hbb9 : Below w1.heap.size w1 w8 := below_from (by first | assumption | exact hb.drew) hb9; have hq9 := (hb9.cell (p := ⟨g, k, none⟩) (by first | exact hgr | assumption)).trans (by first | exact hcr | assumption))
                | (go_at_call 55; refine (refSays_tup ⟨(low (Lib.trimB y1.data.toList 32)).toArray⟩ ⟨(low (Lib.trimB y2.data.toList 32)).toArray⟩ _ z3).mono ?_; rintro e w7 ⟨rfl, hb8⟩; have hbb8 : Below w1.heap.size w1 w7 := below_from (by first | assumption | exact hb.drew) hb8; have hq8 := (hb8.cell (p := ⟨g, k, none⟩) (by first | exact hgr | assumption)).trans (by first | exact hcr | assumption)))
            obtain ⟨a, b, ok⟩ := a1
            have HA1 := Lib.hid ha1
            have HBB := Lib.hid hbb8
            clear hi1 hi2 hi3 hi4 hi5 hi6 hi7 hi8 ha1 hy1 hy2 z1 z2 z3 hq9 hq8 hbb8
            cases ok
            · go_wp2_with fail
              go_roundw
              case rel => exact ⟨k + 1, st, by omega, by go_num, rfl, rfl, by rw [HG.out, HD.out, List.foldl_cons, HA.out]; rfl, HBB.out⟩
              case measure => simp [intOf]; omega
            · go_wp2_with fail
              go_roundw
              case rel => exact ⟨k + 1, cssSay st a b, by omega, by go_num, rfl, rfl, by rw [HG.out, HD.out, List.foldl_cons, HA.out]; rfl, HBB.out⟩
              case measure => simp [intOf]; omega
          · have ht : ((x[j].toNat : Int) != 58) = true := by
              rw [bne_iff_ne]; intro e; exact hc (UInt8.toNat_inj.1 (by simpa using Int.ofNat.inj e))
            have HC : Hid (∀ i, i < j + 1 → x.data.toList[i]? ≠ some 58) := Lib.hid fun i hi => by
              by_cases h : i < j
              · exact HN.out i h
              · obtain rfl : i = j := by omega
                rw [getB x i hjl]
                intro e
                exact hc (Option.some.inj e)
            clear hc
            go_wp2_with fail
            go_round
            case rel => exact ⟨j + 1, by omega, by go_num, HC.out⟩
            case measure => simp [intOf]; omega
        · obtain rfl : j = x.size := by omega
          have HC : Hid (cutL xl = (xl, [], false)) := Lib.hid ((cutL_at xl x.size (by rw [← HX.out]; exact HN.out)).2 (by rw [← HX.out, Array.length_toList]; rfl))
          go_wp2_with fail
          go_roundw
          case rel => exact ⟨k + 1, st, by omega, by go_num, rfl, rfl, by rw [HG.out, HD.out, List.foldl_cons]; congr 1; rw [refStep, HC.out]; rfl, hb⟩
          case measure => simp [intOf]; omega
    · obtain rfl : k = m + 1 := by omega
      rw [List.drop_eq_nil_of_le (by rw [HM.out]; exact Nat.le_refl _)] at HG
      go_wp2
      go_ret2
      refine ⟨?_, HB.out.trans (hb.mono HB.out.size)⟩
      rw [HF.out, HG.out]
      rfl
end Go.Proofs.YtgeaijnelopkbaaDoor
namespace Go.Proofs.Qw
open Go.RowKit Go.Proofs.YtgeaijnelopkbaaDoor
theorem cssP : CssP := fun s w he hs => parse_any s w he hs
theorem refP : RefP := fun s w hs => (refParse_any s w hs).mono fun _ _ ⟨h1, h2⟩ => ⟨by rw [parse_ref]; exact h1, h2⟩
theorem sane_top {l : List Nod} (hs : Nod.Sanes l) (hl : l.length ≤ 281474976710656) : Nod.Sane (.mk 0 [] [] l) := by
  rw [Nod.Sane]
  exact ⟨⟨by simp, hl, by simp, fun _ h => by cases h⟩, hs⟩
end Go.Proofs.Qw
namespace Go.Proofs.YtgeaijnelopkbaaDoor
open Go.RowKit
open Go.Proofs.Qw
theorem valueSays_str (h : Nat) (n : Nod) (a k : Value) (g : Int) (l : ByteArray) (w : World) (S : Nat → Prop) (hA : AttsR false w S a n.attrs) (hK : NodsR false h w S k n.kids) (hs : n.Sane) (he : EnvT w) :
    Calls Tryd.prog 3 #[nodV n a k, .int .i64 g, .string l] w fun e w' => e = .returned (.bool true) ∧ Below w.heap.size w w' := by
  have := valueSays_any cssP refP h n a k g l.data.toList w S hA hK hs he
  rw [show (⟨l.data.toList.toArray⟩ : ByteArray) = l by simp] at this
  exact this
theorem valueOver_str (h : Nat) (n : Nod) (a k : Value) (g : Int) (l : ByteArray) (w : World) (S : Nat → Prop) (hA : AttsR false w S a n.attrs) (hK : NodsR false h w S k n.kids) (hs : n.Sane) (he : EnvT w) (hg : -9223372036854775808 ≤ g ∧ g ≤ 9223372036854775807) :
    Calls Tryd.prog 5 #[nodV n a k, .int .i64 g, .string l] w fun e w' => e = .returned (.bool true) ∧ Below w.heap.size w w' := by
  have := valueOver_any cssP h n a k g l.data.toList w S hA hK hs he hg.1 hg.2
  rw [show (⟨l.data.toList.toArray⟩ : ByteArray) = l by simp] at this
  exact this
theorem valueTrees_two (h h2 : Nat) (x y : Nod) (a k a2 k2 : Value) (w : World) (S S2 : Nat → Prop) (hA : AttsR false w S a x.attrs) (hK : NodsR false h w S k x.kids) (hA2 : AttsR false w S2 a2 y.attrs) (hK2 : NodsR false h2 w S2 k2 y.kids) (hs : x.Sane) (hs2 : y.Sane) (he : EnvT w) :
    Calls Tryd.prog 4 #[nodV x a k, nodV y a2 k2] w fun e w' => e = .returned (.bool true) ∧ Below w.heap.size w w' :=
  valueTrees_any cssP (max h h2) x y a k a2 k2 w S S2 hA (nods_mono (Nat.le_max_left _ _) hK) hA2 (nods_mono (Nat.le_max_right _ _) hK2) hs hs2 he
theorem valueMakes_str (h : Nat) (z : ByteArray) (t b : Int) (href : ByteArray) (v : Value) (l : List Nod) (w : World) (S : Nat → Prop) (hv : NodsR false h w S v l) (hs : Nod.Sanes l) (hl : l.length ≤ 281474976710656) (he : EnvT w) :
    Calls Tryd.prog 7 #[.string z, .int .i64 t, .int .i64 b, .string href, v] w fun e w' => e = .returned (.bool true) ∧ Below w.heap.size w w' := by
  have := valueMakes_any cssP h z.data.toList t b href.data.toList v l w S hv (sane_top hs hl) he
  rw [show (⟨z.data.toList.toArray⟩ : ByteArray) = z by simp, show (⟨href.data.toList.toArray⟩ : ByteArray) = href by simp] at this
  exact this
theorem valueWraps_str (h : Nat) (b : Int) (href : ByteArray) (v : Value) (l : List Nod) (w : World) (S : Nat → Prop) (hv : NodsR false h w S v l) (hs : Nod.Sanes l) (hl : l.length ≤ 281474976710656) (he : EnvT w) (hb : -9223372036854775808 ≤ b ∧ b ≤ 9223372036854775807) :
    Calls Tryd.prog 6 #[.int .i64 b, .string href, v] w fun e w' => e = .returned (.bool true) ∧ Below w.heap.size w w' := by
  have := valueWraps_any cssP h b href.data.toList v l w S hv (sane_top hs hl) he hb.1 hb.2
  rw [show (⟨href.data.toList.toArray⟩ : ByteArray) = href by simp] at this
  exact this
end Go.Proofs.YtgeaijnelopkbaaDoor
