/- The walk of css.Parse. -/
import Derived.Test.YtjpgffihafknlaaGreatDoorCssWalkB
import Derived.Test.YtjpgffihafknlaaGreatDoorVwClosB
set_option linter.unusedVariables false
set_option linter.unusedSimpArgs false
namespace Go.Proofs.YtjpgffihafknlaaGreatDoor
open Go.RowKit
open Go.Proofs.Qw
attribute [local go_sem] Oper.semAt_some
set_option maxHeartbeats 400000 in
theorem say_any (a b : Int) (B C : Nat) (x y : Int) (w : World) (h1 : w.cell? ⟨B, 0, none⟩ = some (.int .i64 x)) (h2 : w.cell? ⟨C, 0, none⟩ = some (.int .i64 y)) (f1 : w.frozen? ⟨B, 0, none⟩ = false) (f2 : w.frozen? ⟨C, 0, none⟩ = false) (hn : B < C) :
  Calls Tryz.prog 150 #[.int .i64 a, .int .i64 b, .pointer (some ⟨B, 0, none⟩), .pointer (some ⟨C, 0, none⟩)] w fun e w' => e = .returned (.tuple #[]) ∧
   w' = ((w.setCell ⟨B, 0, none⟩ (.int .i64 (cssSay (x, y) a b).1)).setCell ⟨C, 0, none⟩ (.int .i64 (cssSay (x, y) a b).2)).drew := by
 go_enter Tryz.func150, Tryz.ntmps150
 go_wp2
 go_region
 all_goals (go_end0; exact ⟨rfl, rfl⟩)
set_option maxHeartbeats 400000 in
theorem declarations_any (s : ByteArray) (w : World) :
  Calls Tryz.prog 151 #[.string s] w fun e w' => e = .returned (.func (.func 173) #[] #[.pointer (some ⟨w.heap.size, 0, none⟩)]) ∧ w' = w.alloc (.cells #[.string s] 9) := by
 go_enter Tryz.func151, Tryz.ntmps151
 go_wp2
 go_ret
 exact ⟨rfl, rfl⟩
def sayFn (b : Nat) : Value := .func (.func 150) #[] #[.pointer (some ⟨b, 0, none⟩), .pointer (some ⟨b + 1, 0, none⟩)]
def PI (w : World) (pre : List Decl) (W : World) : Prop :=
 Boxed W w.heap.size 3 (.int .i64 ((pre.map (·.1)).foldl cssStep (0, 0)).1) ∧ Boxed W (w.heap.size + 1) 3 (.int .i64 ((pre.map (·.1)).foldl cssStep (0, 0)).2) ∧
  Boxed W (w.heap.size + 2) 171 (sayFn w.heap.size) ∧ Below w.heap.size w W ∧ w.heap.size + 4 ≤ W.heap.size
theorem pi_own {w : World} {B : Nat} (hB : w.heap.size ≤ B) : OwnFrom B (PI w) :=
 OwnFrom.and (Own.from (boxed_own _ _ (fun pre : List Decl => .int .i64 ((pre.map (·.1)).foldl cssStep (0, 0)).1)) _) (OwnFrom.and (Own.from (boxed_own _ _ (fun pre : List Decl => .int .i64 ((pre.map (·.1)).foldl cssStep (0, 0)).2)) _) (OwnFrom.and (Own.from (boxed_own _ _ (fun _ => sayFn w.heap.size)) _) (OwnFrom.and (ownFrom_below (Nat.le_refl _) hB) (ownFrom_size _ _))))
theorem pi_snoc (pre : List Decl) (x : Decl) : ((pre ++ [x]).map (·.1)).foldl cssStep (0, 0) = cssStep ((pre.map (·.1)).foldl cssStep (0, 0)) x.1 := by
 simp only [List.map_append, List.map_cons, List.map_nil, List.foldl_append, List.foldl_cons, List.foldl_nil]
theorem boxes_set {w W : World} {t u : TypeId} {v0 v1 v2 : Value} {B W0s : Nat} (c0 : Boxed W B t v0) (c1 : Boxed W (B + 1) t v1) (c2 : Boxed W (B + 2) u v2) (hb : Below w.heap.size w W) (hB : w.heap.size ≤ B) (hz : B + 4 ≤ W.heap.size) (hW0 : B + 1 < W0s) (x y : Value) {W' : World}
  (hW : W' = ((W.setCell ⟨B, 0, none⟩ x).setCell ⟨B + 1, 0, none⟩ y).drew) :
  KeepsOthers W W' ∧ Kp w.heap.size W0s W W' ∧ Boxed W' B t x ∧ Boxed W' (B + 1) t y ∧ Boxed W' (B + 2) u v2 ∧ Below w.heap.size w W' ∧ B + 4 ≤ W'.heap.size := by
 subst hW
 exact ⟨((KeepsOthers.setCell _ _ _).trans (KeepsOthers.setCell _ _ _)).trans (KeepsOthers.drew _), ((Kp.setCell _ hB (by omega) _).t (Kp.setCell _ (by omega) (by omega) _)).t (Kp.of_below (by simp [World.setCell]; omega) (Below.refl _ _).drew),
  (c0.set _).other (by omega) _, (c1.other (by omega) _).set _, (c2.other (by omega) _).other (by omega) _, ((hb.setCell (p := ⟨B, 0, none⟩) hB _).setCell (p := ⟨B + 1, 0, none⟩) (by simp; omega) _).drew, by simp [World.setCell]; exact hz⟩
theorem pi_said {w W0 W : World} {pre : List Decl} {x : Decl} {on off : Int} (hI : PI w pre W) (hz0 : W0.heap.size = w.heap.size + 4)
  (hs : cssStep ((pre.map (·.1)).foldl cssStep (0, 0)) x.1 = cssSay ((pre.map (·.1)).foldl cssStep (0, 0)) on off) {W' : World}
  (hW : W' = ((W.setCell ⟨w.heap.size, 0, none⟩ (.int .i64 (cssSay ((pre.map (·.1)).foldl cssStep (0, 0)) on off).1)).setCell ⟨w.heap.size + 1, 0, none⟩ (.int .i64 (cssSay ((pre.map (·.1)).foldl cssStep (0, 0)) on off).2)).drew) :
  KeepsOthers W W' ∧ Kp w.heap.size W0.heap.size W W' ∧ PI w (pre ++ [x]) W' := by
 obtain ⟨c0, c1, c2, hb, hz⟩ := hI
 have h := boxes_set (W0s := W0.heap.size) c0 c1 c2 hb (Nat.le_refl _) hz (by omega) _ _ hW
 unfold PI
 rw [pi_snoc, hs]
 exact h
theorem PI.below {w W W' : World} {pre : List Decl} (hI : PI w pre W) (hW : Below W.heap.size W W') : PI w pre W' := by
 obtain ⟨c0, c1, c2, hb, hz⟩ := hI
 exact ⟨c0.kept (grown_of_below hW) (by simp), c1.kept (grown_of_below hW) (by simp), c2.kept (grown_of_below hW) (by simp), hb.trans (hW.mono (by omega)), Nat.le_trans hz hW.size⟩
theorem pi_kept {w W0 W W' : World} {pre : List Decl} {x : Decl} (hI : PI w pre W)
  (hs : cssStep ((pre.map (·.1)).foldl cssStep (0, 0)) x.1 = (pre.map (·.1)).foldl cssStep (0, 0)) (hW : Below W.heap.size W W') :
  KeepsOthers W W' ∧ Kp w.heap.size W0.heap.size W W' ∧ PI w (pre ++ [x]) W' := by
 have h2 := hI.below hW
 obtain ⟨_, _, _, hb, hz⟩ := hI
 refine ⟨keeps_below hW, Kp.of_below (by omega) hW, ?_⟩
 unfold PI at h2 ⊢
 rw [pi_snoc, hs]
 exact h2
theorem pi_said2 {w W0 W W2 : World} {pre : List Decl} {x : Decl} {on off : Int} (hI : PI w pre W) (hW2 : Below W.heap.size W W2) (hz0 : W0.heap.size = w.heap.size + 4)
  (hs : cssStep ((pre.map (·.1)).foldl cssStep (0, 0)) x.1 = cssSay ((pre.map (·.1)).foldl cssStep (0, 0)) on off) {W' : World}
  (hW : W' = ((W2.setCell ⟨w.heap.size, 0, none⟩ (.int .i64 (cssSay ((pre.map (·.1)).foldl cssStep (0, 0)) on off).1)).setCell ⟨w.heap.size + 1, 0, none⟩ (.int .i64 (cssSay ((pre.map (·.1)).foldl cssStep (0, 0)) on off).2)).drew) :
  KeepsOthers W W' ∧ Kp w.heap.size W0.heap.size W W' ∧ PI w (pre ++ [x]) W' := by
 have h := pi_said (hI.below hW2) hz0 hs hW
 obtain ⟨_, _, _, _, hz⟩ := hI
 exact ⟨(keeps_below hW2).trans h.1, (Kp.of_below (by omega) hW2).t h.2.1, h.2.2⟩
set_option maxRecDepth 200000 in
set_option maxHeartbeats 4000000 in
theorem parse_any (s : ByteArray) (w : World) (he : Env w) (hs : s.size ≤ 100000) :
  Calls Tryz.prog 137 #[.string s] w fun e w' => e = .returned (.tuple #[.int .i64 (cssParse s.data.toList).1, .int .i64 (cssParse s.data.toList).2]) ∧ Below w.heap.size w w' := by
 refine (callsIn_wide (n := 6)).1 ?_
 refine callsIn_of_wp_marks Tryz.func137 rfl trivial ?_ rfl
 simp only [Tryz.ntmps137, List.size_toArray, List.length_cons, List.length_nil, Nat.reduceAdd, Nat.reduceSub, Array.replicate_succ, Array.replicate_zero, List.push_toArray, List.append_toArray, List.nil_append, List.cons_append]
 have hwf : ∀ f, Fence.wide.fn f := fun _ => trivial
 have hwd : Fence.wide.depth = none := rfl
 gi_wp2_with (gi_at_call 151; refine (callsIn_wide.2 (declarations_any s _)).mono ?_; rintro e w' ⟨rfl, rfl⟩)
 have hw0 : ∃ W0 : World, ((((w.alloc (.cells #[.int .i64 0] 3)).alloc (.cells #[.int .i64 0] 3)).alloc (.cells #[.func (.func 150) #[] #[.pointer (some ⟨w.heap.size, 0, none⟩), .pointer (some ⟨w.heap.size + 1, 0, none⟩)]] 171)).alloc (.cells #[.string s] 9)) = W0 := ⟨_, rfl⟩
 obtain ⟨W0, hW0⟩ := hw0
 rw [hW0]
 have b0 : Boxed W0 w.heap.size 3 (.int .i64 0) := hW0 ▸ (((Boxed.new w _ _).alloc _).alloc _).alloc _
 have b1 : Boxed W0 (w.heap.size + 1) 3 (.int .i64 0) := hW0 ▸ ((Boxed.newAt (by simp) _ _).alloc _).alloc _
 have b2 : Boxed W0 (w.heap.size + 2) 171 (sayFn w.heap.size) := hW0 ▸ (Boxed.newAt (by simp) _ _).alloc _
 have b3 : Boxed W0 (w.heap.size + 3) 9 (.string s) := hW0 ▸ Boxed.newAt (by simp) _ _
 have hz0 : W0.heap.size = w.heap.size + 4 := by rw [← hW0]; simp
 have hb0 : Below w.heap.size w W0 := hW0 ▸ ((((Below.refl _ w).alloc (Nat.le_refl _) _).alloc (by simp) _).alloc (by simp; omega) _).alloc (by simp; omega) _
 clear hW0
 refine wpIn_rangeFunc_ownF rfl (by omega) (gf := 173) (lb := #[.pointer (some ⟨w.heap.size + 1 + 1 + 1, 0, none⟩)]) rfl trivial (enters_of Tryz.func173 (by kernel_rfl) rfl)
  (encs := declEnc) (Kp := Kp w.heap.size W0.heap.size) (S := fun ys => ys.map (·.1) = decls s.data.toList) (Sp := fun _ => True) (N := 200000) (w0 := W0) ?seq (fun h k => h.t k) (Kp.b (by omega)) (Below.refl _ _) (fun _ => rfl)
  (PI w) (fun _ _ _ => False) (pi_own (by omega)) (fun _ _ _ _ _ hs _ _ => hs) ⟨b0, b1, b2, hb0, by omega⟩ ?a1 ?assign ?body ?done ?stop
 case assign =>
  intro l x W K hK
  gi_wp2
  exact hK
 case seq =>
  intro l J Jx W hW hJ _ hY h0
  exact decl1_in 5 l (w.heap.size + 3) W0.heap.size s hs J Jx w W he (hb0.trans (hW.mono (by omega))) hJ hW.size (fun pre x W1 hj hl => hY pre x W1 hj hl) ((hW.cell (p := ⟨w.heap.size + 3, 0, none⟩) (by simp; omega)).trans b3.cell) h0
 case body =>
  rintro l pre ⟨⟨nm, vl⟩, hx1, hx2⟩ W hI _
  clear b0 b1 b2 b3
  have HI := Lib.hid hI
  obtain ⟨c0, c1, c2, hb, hz⟩ := hI
  have e0 := c0.cell
  have e1 := c1.cell
  have e2 : W.cell? ⟨w.heap.size + 1 + 1, 0, none⟩ = some (.func (.func 150) #[] #[.pointer (some ⟨w.heap.size, 0, none⟩), .pointer (some ⟨w.heap.size + 1, 0, none⟩)]) := c2.cell
  have f0 := c0.frozen
  have f1 := c1.frozen
  have hwe := he.below hb
  dsimp only at hx1 hx2
  clear c0 c1 c2 hb hb0
  obtain ⟨T, hT⟩ : ∃ T : ByteArray, (⟨nm.toArray⟩ ++ ⟨#[58]⟩ ++ ⟨vl.toArray⟩ : ByteArray) = T := ⟨_, rfl⟩
  have HT : Hid (T.data.toList = nm ++ 58 :: vl) := Lib.hid (by rw [← hT]; simp)
  have HE : Hid (∀ st, cssStep st (nm, vl) = cssStepT T.data.toList st nm vl) := Lib.hid fun st => by rw [HT.out]; rfl
  gi_wp2_with (first | (gi_at_call 150; refine (CallsIn.inRound l (callsIn_wide.2 (say_any _ _ _ _ _ _ _ (by assumption) (by assumption) (by assumption) (by assumption) (by omega)))).mono ?_; rintro e w' ⟨rfl, rfl⟩) | (gi_at_call 152; refine (CallsIn.inRound l (callsIn_wide.2 (words_any ⟨vl.toArray⟩ W hwe (by simp [ByteArray.size]; omega)))).mono ?_; rintro e w2 ⟨rfl, hb2⟩; have g0 := (hb2.cell (p := ⟨w.heap.size, 0, none⟩) (by simp; omega)).trans e0; have g1 := (hb2.cell (p := ⟨w.heap.size + 1, 0, none⟩) (by simp; omega)).trans e1; have g2 := (hb2.cell (p := ⟨w.heap.size + 1 + 1, 0, none⟩) (by simp; omega)).trans e2; have g3 := (hb2.frozen (p := ⟨w.heap.size, 0, none⟩) (by simp; omega)).trans f0; have g4 := (hb2.frozen (p := ⟨w.heap.size + 1, 0, none⟩) (by simp; omega)).trans f1; have HB2 := Lib.hid hb2; clear hb2))
  ·exact pi_said (x := ⟨(nm, vl), hx1, hx2⟩) HI.out hz0 ((HE.out _).trans (cssT1  (eq_of_beq ‹(T.toList == [102, 111, 110, 116, 45, 119, 101, 105, 103, 104, 116, 58, 98, 111, 108, 100]) = true›))) rfl
  ·exact pi_said (x := ⟨(nm, vl), hx1, hx2⟩) HI.out hz0 ((HE.out _).trans (cssT2 (ne_of_beq ‹(T.toList == [102, 111, 110, 116, 45, 119, 101, 105, 103, 104, 116, 58, 98, 111, 108, 100]) = false›) (eq_of_beq ‹(T.toList == [102, 111, 110, 116, 45, 119, 101, 105, 103, 104, 116, 58, 55, 48, 48]) = true›))) rfl
  ·exact pi_said (x := ⟨(nm, vl), hx1, hx2⟩) HI.out hz0 ((HE.out _).trans (cssT3 (ne_of_beq ‹(T.toList == [102, 111, 110, 116, 45, 119, 101, 105, 103, 104, 116, 58, 98, 111, 108, 100]) = false›) (ne_of_beq ‹(T.toList == [102, 111, 110, 116, 45, 119, 101, 105, 103, 104, 116, 58, 55, 48, 48]) = false›) (eq_of_beq ‹(T.toList == [102, 111, 110, 116, 45, 119, 101, 105, 103, 104, 116, 58, 110, 111, 114, 109, 97, 108]) = true›))) rfl
  ·exact pi_said (x := ⟨(nm, vl), hx1, hx2⟩) HI.out hz0 ((HE.out _).trans (cssT4 (ne_of_beq ‹(T.toList == [102, 111, 110, 116, 45, 119, 101, 105, 103, 104, 116, 58, 98, 111, 108, 100]) = false›) (ne_of_beq ‹(T.toList == [102, 111, 110, 116, 45, 119, 101, 105, 103, 104, 116, 58, 55, 48, 48]) = false›) (ne_of_beq ‹(T.toList == [102, 111, 110, 116, 45, 119, 101, 105, 103, 104, 116, 58, 110, 111, 114, 109, 97, 108]) = false›) (eq_of_beq ‹(T.toList == [102, 111, 110, 116, 45, 119, 101, 105, 103, 104, 116, 58, 52, 48, 48]) = true›))) rfl
  ·exact pi_said (x := ⟨(nm, vl), hx1, hx2⟩) HI.out hz0 ((HE.out _).trans (cssT5 (ne_of_beq ‹(T.toList == [102, 111, 110, 116, 45, 119, 101, 105, 103, 104, 116, 58, 98, 111, 108, 100]) = false›) (ne_of_beq ‹(T.toList == [102, 111, 110, 116, 45, 119, 101, 105, 103, 104, 116, 58, 55, 48, 48]) = false›) (ne_of_beq ‹(T.toList == [102, 111, 110, 116, 45, 119, 101, 105, 103, 104, 116, 58, 110, 111, 114, 109, 97, 108]) = false›) (ne_of_beq ‹(T.toList == [102, 111, 110, 116, 45, 119, 101, 105, 103, 104, 116, 58, 52, 48, 48]) = false›) (eq_of_beq ‹(T.toList == [102, 111, 110, 116, 45, 115, 116, 121, 108, 101, 58, 105, 116, 97, 108, 105, 99]) = true›))) rfl
  ·exact pi_said (x := ⟨(nm, vl), hx1, hx2⟩) HI.out hz0 ((HE.out _).trans (cssT6 (ne_of_beq ‹(T.toList == [102, 111, 110, 116, 45, 119, 101, 105, 103, 104, 116, 58, 98, 111, 108, 100]) = false›) (ne_of_beq ‹(T.toList == [102, 111, 110, 116, 45, 119, 101, 105, 103, 104, 116, 58, 55, 48, 48]) = false›) (ne_of_beq ‹(T.toList == [102, 111, 110, 116, 45, 119, 101, 105, 103, 104, 116, 58, 110, 111, 114, 109, 97, 108]) = false›) (ne_of_beq ‹(T.toList == [102, 111, 110, 116, 45, 119, 101, 105, 103, 104, 116, 58, 52, 48, 48]) = false›) (ne_of_beq ‹(T.toList == [102, 111, 110, 116, 45, 115, 116, 121, 108, 101, 58, 105, 116, 97, 108, 105, 99]) = false›) (eq_of_beq ‹(T.toList == [102, 111, 110, 116, 45, 115, 116, 121, 108, 101, 58, 110, 111, 114, 109, 97, 108]) = true›))) rfl
  ·exact pi_said (x := ⟨(nm, vl), hx1, hx2⟩) HI.out hz0 ((HE.out _).trans (cssT7 (ne_of_beq ‹(T.toList == [102, 111, 110, 116, 45, 119, 101, 105, 103, 104, 116, 58, 98, 111, 108, 100]) = false›) (ne_of_beq ‹(T.toList == [102, 111, 110, 116, 45, 119, 101, 105, 103, 104, 116, 58, 55, 48, 48]) = false›) (ne_of_beq ‹(T.toList == [102, 111, 110, 116, 45, 119, 101, 105, 103, 104, 116, 58, 110, 111, 114, 109, 97, 108]) = false›) (ne_of_beq ‹(T.toList == [102, 111, 110, 116, 45, 119, 101, 105, 103, 104, 116, 58, 52, 48, 48]) = false›) (ne_of_beq ‹(T.toList == [102, 111, 110, 116, 45, 115, 116, 121, 108, 101, 58, 105, 116, 97, 108, 105, 99]) = false›) (ne_of_beq ‹(T.toList == [102, 111, 110, 116, 45, 115, 116, 121, 108, 101, 58, 110, 111, 114, 109, 97, 108]) = false›) (eq_of_beq ‹(T.toList == [116, 101, 120, 116, 45, 100, 101, 99, 111, 114, 97, 116, 105, 111, 110, 58, 110, 111, 110, 101]) = true›))) rfl
  all_goals have h8 := (HE.out ((pre.map (·.1)).foldl cssStep (0, 0))).trans (cssT8 (ne_of_beq ‹(T.toList == [102, 111, 110, 116, 45, 119, 101, 105, 103, 104, 116, 58, 98, 111, 108, 100]) = false›) (ne_of_beq ‹(T.toList == [102, 111, 110, 116, 45, 119, 101, 105, 103, 104, 116, 58, 55, 48, 48]) = false›) (ne_of_beq ‹(T.toList == [102, 111, 110, 116, 45, 119, 101, 105, 103, 104, 116, 58, 110, 111, 114, 109, 97, 108]) = false›) (ne_of_beq ‹(T.toList == [102, 111, 110, 116, 45, 119, 101, 105, 103, 104, 116, 58, 52, 48, 48]) = false›) (ne_of_beq ‹(T.toList == [102, 111, 110, 116, 45, 115, 116, 121, 108, 101, 58, 105, 116, 97, 108, 105, 99]) = false›) (ne_of_beq ‹(T.toList == [102, 111, 110, 116, 45, 115, 116, 121, 108, 101, 58, 110, 111, 114, 109, 97, 108]) = false›) (ne_of_beq ‹(T.toList == [116, 101, 120, 116, 45, 100, 101, 99, 111, 114, 97, 116, 105, 111, 110, 58, 110, 111, 110, 101]) = false›))
  all_goals go_tidy
  ·exact pi_said2 (x := ⟨(nm, vl), hx1, hx2⟩) HI.out HB2.out hz0 (h8.trans ((if_pos ‹(words vl).2 = true›).trans (if_pos (show nm = textDeco from beq_iff_eq.1 ‹_›)))) rfl
  ·exact pi_kept (x := ⟨(nm, vl), hx1, hx2⟩) HI.out (h8.trans ((if_pos ‹(words vl).2 = true›).trans (if_neg (show ¬ nm = textDeco from beq_eq_false_iff_ne.1 ‹_›)))) HB2.out
  ·exact pi_kept (x := ⟨(nm, vl), hx1, hx2⟩) HI.out (h8.trans (if_neg ‹_›)) HB2.out
 case done =>
  rintro D ys W hD hys ⟨c0, c1, c2, hb, hz⟩ hK
  have e0 := c0.cell
  have e1 := c1.cell
  have f0 := c0.frozen
  have f1 := c1.frozen
  gi_wp2
  gi_region
  gi_wp2
  have hK2 : ((W.setCell ⟨w.heap.size, 0, none⟩ (.int .i64 (List.foldl cssStep (0, 0) (decls s.data.toList)).1)).setCell ⟨w.heap.size + 1, 0, none⟩ (.int .i64 (List.foldl cssStep (0, 0) (decls s.data.toList)).2)).drew.heap[D]? = some (.deferred (some [])) := by
   show ((W.setCell _ _).setCell _ _).heap[D]? = _
   rw [Below.heap_setCell _ _ _ _ (by simp; omega), Below.heap_setCell _ _ _ _ (by simp; omega)]
   exact hK
  refine ⟨by simp, .inl ⟨_, _, rfl, run_takeDeferred hK2, ?_⟩⟩
  have g0 : (((W.setCell ⟨w.heap.size, 0, none⟩ (.int .i64 (List.foldl cssStep (0, 0) (decls s.data.toList)).1)).setCell ⟨w.heap.size + 1, 0, none⟩ (.int .i64 (List.foldl cssStep (0, 0) (decls s.data.toList)).2)).drew).cell? ⟨w.heap.size, 0, none⟩ = some (.int .i64 (List.foldl cssStep (0, 0) (decls s.data.toList)).1) :=
   (setCell_block (by omega)).trans (setCell_same e0)
  have g1 : (((W.setCell ⟨w.heap.size, 0, none⟩ (.int .i64 (List.foldl cssStep (0, 0) (decls s.data.toList)).1)).setCell ⟨w.heap.size + 1, 0, none⟩ (.int .i64 (List.foldl cssStep (0, 0) (decls s.data.toList)).2)).drew).cell? ⟨w.heap.size + 1, 0, none⟩ = some (.int .i64 (List.foldl cssStep (0, 0) (decls s.data.toList)).2) :=
   setCell_same ((setCell_block (by omega)).trans e1)
  have hB2 : Below w.heap.size w ((W.setCell ⟨w.heap.size, 0, none⟩ (.int .i64 (List.foldl cssStep (0, 0) (decls s.data.toList)).1)).setCell ⟨w.heap.size + 1, 0, none⟩ (.int .i64 (List.foldl cssStep (0, 0) (decls s.data.toList)).2)).drew :=
   ((hb.setCell (p := ⟨w.heap.size, 0, none⟩) (Nat.le_refl _) _).setCell (p := ⟨w.heap.size + 1, 0, none⟩) (by simp) _).drew
  generalize ((W.setCell ⟨w.heap.size, 0, none⟩ (.int .i64 (List.foldl cssStep (0, 0) (decls s.data.toList)).1)).setCell ⟨w.heap.size + 1, 0, none⟩ (.int .i64 (List.foldl cssStep (0, 0) (decls s.data.toList)).2)).drew = W9 at *
  have hD2 : w.heap.size + 4 ≤ D := by omega
  have q0 : (W9.putObj D (.deferred none)).cell? ⟨w.heap.size, 0, none⟩ = some (.int .i64 (List.foldl cssStep (0, 0) (decls s.data.toList)).1) := (World.cell?_of_block (World.putObj_heap_other (by simp; omega))).trans g0
  have q1 : (W9.putObj D (.deferred none)).cell? ⟨w.heap.size + 1, 0, none⟩ = some (.int .i64 (List.foldl cssStep (0, 0) (decls s.data.toList)).2) := (World.cell?_of_block (World.putObj_heap_other (by simp; omega))).trans g1
  refine ⟨_, ?_, rfl, ?_⟩
  ·simp [results, Tryz.results137, go_sem, q0, q1]
   exact ⟨rfl, rfl⟩
  ·exact hB2.trans (belowK_b (w := w) (Nat.le_refl _) W9 D _ _ (by omega) hK2 rfl rfl)
 case stop =>
  rintro D c pre W _ _ h _
  exact h.elim
end Go.Proofs.YtjpgffihafknlaaGreatDoor
namespace Go.Proofs.Qw
open Go.RowKit Go.Proofs.YtjpgffihafknlaaGreatDoor
theorem cssPV : CssP := fun s w he hs => parse_any s w he hs
end Go.Proofs.Qw
