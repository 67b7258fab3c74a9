/- The walks of render.parts over cells: as long parts as can be whose cells are alike. -/
import Derived.Test.YtjpgffihafknlaaGreatDoorNodPlainB
import Derived.Test.YtjpgffihafknlaaGreatDoorRenAlikeB
import Derived.Deep.RegionHeld3
import Derived.Deep.Cut
import Derived.Deep.CutRange
import Derived.Test.YtjpgffihafknlaaGreatDoorDocPosB
set_option linter.unusedVariables false
set_option linter.unusedSimpArgs false
namespace Go.Proofs.YtjpgffihafknlaaGreatDoor
open Go.RowKit
open Go.Proofs.Qw
attribute [local go_sem] Oper.semAt_some
theorem rangeFunc_slotB {P : Program} {F : Fence} {n : Nat} {α : Type} {g : Operand} {ps : Array Tmp} {assign body : Code} {Q : Exit → Act → World → Prop} {a : Act} {w : World}
  (hro : F.round = none) (h1 : 1 ≤ n) {gf : Nat} {lb : Array Value} (hg : a.eval g = .func (.func gf) #[] lb) (hFg : F.fn gf) (eg : ∀ args w, (callFunc gf args).run P w = .ok (.enter gf args) w)
  {encs : α → Array Value} {n₀ base top : Nat} {S Sp : List α → Prop} {N : Nat} {w0 : World} (hseq : SeqStopsK F (n - 1) P gf lb encs (Kb n₀ base top) S Sp N w0)
  (hn : n₀ ≤ w.heap.size) (hb0 : Below w0.heap.size w0 w) (hps : ∀ x, (encs x).size = ps.size)
  (I : List α → World → Prop) (hI : OwnFrom w.heap.size I) (h0 : I [] w) (act : α → Act)
  (hassign : ∀ (l : Nat) (pre : List α) (x : α) (W : World) (K : Act → World → Prop), I pre W → K (act x) W →
   assign.wpIn (F.inRound l) (n - 1 - 1) P (Exit.then K (fun _ _ _ => False)) { tmps := (ps.zip (encs x)).foldl (fun t (p, v) => t.setIfInBounds p v) a.tmps, defers := [] } W)
  (hbody : ∀ (l : Nat) (pre : List α) (x : α) (W : World), I pre W → pre.length < N → body.wpIn (F.inRound l) (n - 1 - 1) P (ownPostG w.heap.size (Kb n₀ base top) I (fun _ _ _ => False) (pre ++ [x]) W) (act x) W)
  (hdone : ∀ (D : Nat) (xs : List α) (W : World), w.heap.size ≤ D → S xs → I xs W → W.heap[D]? = some (.deferred (some [])) → Q .normal { a with defers := { target := .collected D, args := #[] } :: a.defers } W) :
  (Code.rangeFunc g ps assign body).wpIn F n P Q a w := by
 refine wpIn_rangeFunc_ownH hro h1 hg hFg eg hseq (fun h k => h.t k) (Kb.b hn) hb0 hps I (fun _ _ _ => False) hI (fun _ _ _ _ _ h _ _ => h) h0
  (fun x a' _ => a' = act x) (fun _ _ _ _ _ _ h _ _ => h) ?_ ?_ hdone (fun _ _ _ _ _ _ h _ => h.elim)
 ·intro l pre x W K hi hK
  exact hassign l pre x W K hi (hK _ _ (KeepsFrom.refl _ _) ⟨Below.refl _ _, fun _ _ _ _ h _ => h⟩ hi rfl)
 ·intro l pre x a' W hl hr hi ha hlt
  subst ha
  exact hbody l pre x W hi hlt
abbrev PartX {α : Type} (d : List α) : Type := { x : Nat × Nat // CutOk d x }
def partV (va : Option Addr) (vc k : Nat) (x : Nat × Nat) : Value := sliced va x.1 x.2 vc k
def partEnc {α : Type} {d : List α} (va : Option Addr) (vc k : Nat) (x : PartX d) : Array Value := #[partV va vc k x.1]
set_option maxHeartbeats 400000 in
theorem partsC_any (va : Option Addr) (vn vc g : Nat) (b : Array Value) (w : World) : Calls Tryz.prog 133 #[.slice va vn vc, .func (.func g) #[] b] w fun e w' => e = .returned (.func (.func 147) #[] #[.pointer (some ⟨w.heap.size, 0, none⟩), .pointer (some ⟨w.heap.size + 1, 0, none⟩)]) ∧ w' = (w.alloc (.cells #[.slice va vn vc] 35)).alloc (.cells #[.func (.func g) #[] b] 159) := by
 go_enter Tryz.func133, Tryz.ntmps133
 go_wp2
 go_ret
 exact ⟨by simp, rfl⟩
set_option maxRecDepth 200000 in
set_option maxHeartbeats 4000000 in
theorem parts1_leaves (n l Bl Ba base top : Nat)  (va : Option Addr) (vc : Nat) (d : List Cel) (r : Cel → Cel → Bool) (S : Nat → Prop) (J Jx : List (PartX d) → World → Prop) (w0 W : World) (hv : CelsR false w0 S (.slice va d.length vc) d) (hb0 : Below w0.heap.size w0 W)
  (hal : ∀ X, Below w0.heap.size w0 X → ∀ x y : Cel, Calls Tryz.prog 170 #[.agg #[.int .i32 x.r, .int .i64 x.bits, .string ⟨x.href.toArray⟩], .agg #[.int .i32 y.r, .int .i64 y.bits, .string ⟨y.href.toArray⟩]] X fun e X' => e = .returned (.bool (r x y)) ∧ Below X.heap.size X X')
  (hbase : base ≤ Bl ∧ base ≤ Ba) (htop : Bl < top ∧ Ba < top) (hD : W.heap[Bl]? = some (.cells #[.slice va d.length vc] 35)) (hA : W.heap[Ba]? = some (.cells #[.func (.func 170) #[] #[]] 159))
  (hlen : d.length ≤ 100000) (hJ : AbidesFrom W.heap.size J)
  (hY : ∀ (pre : List (PartX d)) (x : PartX d) W, J pre W → pre.length < d.length → YieldAt Fence.wide (n - 1) Tryz.prog l (partEnc va vc 3 x) W fun e W' =>
   (e = .returned (.bool true) ∧ J (pre ++ [x]) W' ∧ Kb w0.heap.size base top W W') ∨ (e = .returned (.bool false) ∧ Jx (pre ++ [x]) W'))
  (h0 : J [] W) :
  CallsIn Fence.wide n Tryz.prog 147 #[.func (.yield l) #[] #[], .pointer (some ⟨Bl, 0, none⟩), .pointer (some ⟨Ba, 0, none⟩)] W fun e W' => (∃ v, e = .returned v) ∧
   ((∃ ys : List (PartX d), ys.map (fun y => cutP d y.1) = partsBy r d ∧ J ys W') ∨ (∃ pre, True ∧ Jx pre W')) := by
 refine callsIn_of_wp Tryz.func147 rfl trivial ?_ rfl
 simp only [Tryz.ntmps147, List.size_toArray, List.length_cons, List.length_nil, Nat.reduceAdd, Nat.reduceSub, Array.replicate_succ, Array.replicate_zero, List.push_toArray, List.append_toArray, List.nil_append, List.cons_append]
 have hwf : ∀ f, Fence.wide.fn f := fun _ => trivial
 have hwd : Fence.wide.depth = none := rfl
 obtain ⟨va', vc', hve, hvc, hvm, hx⟩ := cels_shape hv
 cases hve
 have HX := Lib.hid hx
 have HY := Lib.hid hY
 have HAL := Lib.hid hal
 have HJA := Lib.hid hJ
 have HBK := Lib.hid (And.intro hD hA)
 unfold maxLen at hvm
 clear hx hv hY hal hJ hD hA
 refine wpIn_wide.2 ?_
 go_wp2_with fail
 go_loopw [4, 5] (fun f _ wr => ∃ (i : Nat) (pre : List (PartX d)), i ≤ d.length ∧ pre.length ≤ i ∧ f = .int .i64 i ∧ Hid ((pre.map (·.1)).map (cutP d) ++ partsBy r (d.drop i) = partsBy r d) ∧ J pre wr ∧ Below w0.heap.size w0 wr ∧ Hid (wr.heap[Bl]? = some (.cells #[.slice va d.length vc] 35) ∧ wr.heap[Ba]? = some (.cells #[.func (.func 170) #[] #[]] 159)) ∧ W.heap.size ≤ wr.heap.size)
  (fun f _ _ => d.length - (intOf f).toNat)
 case atStart => exact ⟨0, [], Nat.zero_le _, Nat.le_refl _, rfl, Lib.hid rfl, h0, hb0, HBK, Nat.le_refl _⟩
 case round =>
  obtain ⟨i, pre, hi, hpl, rfl, HP, hJs, hb1, HBL, hz1⟩ := hrel
  obtain ⟨p1, f1⟩ := blk HBL.out.1
  obtain ⟨p2, f2⟩ := blk HBL.out.2
  by_cases hlt : i < d.length
  ·obtain ⟨a, ha, hda⟩ := getOf d i hlt
   obtain ⟨bb, oo, eva, hz, c0, c1, c2⟩ := HX.out i a ha
   subst eva
   have HDA := Lib.hid hda
   have HC := Lib.hid (And.intro hz (And.intro c0 (And.intro c1 c2)))
   have HJS := Lib.hid hJs
   clear ha hda c0 c1 c2 hJs
   go_wp2_with fail
   go_loopw [5] (fun t wq => ∃ j : Nat, i + 1 ≤ j ∧ j ≤ d.length ∧ t = .int .i64 j ∧ Hid (runTo r a d j = runTo r a d (i + 1)) ∧ Hid (Below wr.heap.size wr wq)) (fun t _ => d.length - (intOf t).toNat)
   case atStart => exact ⟨i + 1, Nat.le_refl _, hlt, by go_num, Lib.hid rfl, Lib.hid (Below.refl _ _)⟩
   case round =>
    obtain ⟨j, hj1, hj2, rfl, HE, HB⟩ := hrel
    have HW0 := Lib.hid (below_from hb1 HB.out)
    obtain ⟨q1, g1⟩ := blk (heap_below HB.out HBL.out.1)
    obtain ⟨q2, g2⟩ := blk (heap_below HB.out HBL.out.2)
    have c0 := (HW0.out.cell (p := ⟨bb, oo + i * 3, none⟩) HC.out.1).trans HC.out.2.1
    have c1 := (HW0.out.cell (p := ⟨bb, oo + i * 3 + 1, none⟩) HC.out.1).trans HC.out.2.2.1
    have c2 := (HW0.out.cell (p := ⟨bb, oo + i * 3 + 2, none⟩) HC.out.1).trans HC.out.2.2.2
    have hwr : Below wr.heap.size wr wr.drew := (Below.refl _ _).drew
    have i0 : (0 : Int) ≤ (i : Int) := Int.natCast_nonneg _
    have i1 : (i : Int) < (d.length : Int) := by omega
    have hne : ¬ vc = i := by omega
    clear p1 f1 p2 f2
    by_cases hlt2 : j < d.length
    ·obtain ⟨y, hy, hdy⟩ := getOf d j hlt2
     obtain ⟨b2, o2, e2, hz2, k0, k1, k2⟩ := HX.out j y hy
     cases e2
     have HC2 := Lib.hid (And.intro k0 (And.intro k1 k2))
     have k0 := (HW0.out.cell (p := ⟨bb, oo + j * 3, none⟩) hz2).trans k0
     have k1 := (HW0.out.cell (p := ⟨bb, oo + j * 3 + 1, none⟩) hz2).trans k1
     have k2 := (HW0.out.cell (p := ⟨bb, oo + j * 3 + 2, none⟩) hz2).trans k2
     have j0 : (0 : Int) ≤ (j : Int) := Int.natCast_nonneg _
     have j1 : (j : Int) < (d.length : Int) := by omega
     have hdj : decide ((j : Int) < (d.length : Int)) = true := by simp; omega
     have HCA : Hid (∀ X, Below wr.heap.size wr X → Calls Tryz.prog 170 #[.agg #[.int .i32 a.r, .int .i64 a.bits, .string ⟨a.href.toArray⟩], .agg #[.int .i32 y.r, .int .i64 y.bits, .string ⟨y.href.toArray⟩]] X fun e X' => e = .returned (.bool (r a y)) ∧ Below X.heap.size X X') := Lib.hid fun X hX => HAL.out X (below_from HW0.out hX) a y
     have HDY := Lib.hid hdy
     clear hy hdy
     cases hr : r a y
     all_goals
      rw [hr] at HCA
      have HRR := Lib.hid hr
      clear hr
      go_wp2_with fail
      (go_region_held3 (fun w' => w'.cell? ⟨Bl, 0, none⟩ = some (.slice (some ⟨bb, oo, none⟩) d.length vc) ∧ w'.cell? ⟨Ba, 0, none⟩ = some (.func (.func 170) #[] #[]) ∧ w'.cell? ⟨bb, oo + i * 3, none⟩ = some (.int .i32 a.r) ∧ w'.cell? ⟨bb, oo + i * 3 + 1, none⟩ = some (.int .i64 a.bits) ∧ w'.cell? ⟨bb, oo + i * 3 + 2, none⟩ = some (.string ⟨a.href.toArray⟩) ∧ w'.cell? ⟨bb, oo + j * 3, none⟩ = some (.int .i32 y.r) ∧ w'.cell? ⟨bb, oo + j * 3 + 1, none⟩ = some (.int .i64 y.bits) ∧ w'.cell? ⟨bb, oo + j * 3 + 2, none⟩ = some (.string ⟨y.href.toArray⟩)) ((first | go_keep | skip)) ((go_at_call 170; (with_reducible refine (HCA.out _ (by assumption)).mono ?_); rintro e w5 ⟨rfl, hb5⟩; have hx5 : Below wr.heap.size wr w5 := below_from (by assumption) hb5; obtain ⟨r1, s1⟩ := blk (heap_below hx5 (heap_below HB.out HBL.out.1)); obtain ⟨r2, s2⟩ := blk (heap_below hx5 (heap_below HB.out HBL.out.2)); have HW5 := below_from HW0.out hx5; have m0 := (HW5.cell (p := ⟨bb, oo + i * 3, none⟩) HC.out.1).trans HC.out.2.1; have m1 := (HW5.cell (p := ⟨bb, oo + i * 3 + 1, none⟩) HC.out.1).trans HC.out.2.2.1; have m2 := (HW5.cell (p := ⟨bb, oo + i * 3 + 2, none⟩) HC.out.1).trans HC.out.2.2.2; have n0 := (HW5.cell (p := ⟨bb, oo + j * 3, none⟩) hz2).trans HC2.out.1; have n1 := (HW5.cell (p := ⟨bb, oo + j * 3 + 1, none⟩) hz2).trans HC2.out.2.1; have n2 := (HW5.cell (p := ⟨bb, oo + j * 3 + 2, none⟩) hz2).trans HC2.out.2.2)))
     ·have HE2 : Hid (runTo r a d (i + 1) = j) := Lib.hid (HE.out.symm.trans (runTo_no HDY.out HRR.out))
      have HBx := below_from HB.out hx5
      have hYY := HY.out pre ⟨(i, j), ⟨by omega, hj2⟩⟩ w5 (abides_below HJA.out HJS.out HBx) (by omega)
      have hrow : partEnc (some ⟨bb, oo, none⟩) vc 3 (⟨(i, j), ⟨by omega, hj2⟩⟩ : PartX d) = #[.slice (some ⟨bb, oo + i * 3, none⟩) (j - i) (vc - i)] := by
       unfold partEnc partV sliced
       simp only
       rw [if_neg (by omega)]
       simp only [Option.map_some, WideShapes.add_plain]
      rw [hrow] at hYY
      have HNX : Hid (∀ w7, J (pre ++ [⟨(i, j), ⟨by omega, hj2⟩⟩]) w7 → Kb w0.heap.size base top w5 w7 → ∃ (i' : Nat) (pre' : List (PartX d)), i' ≤ d.length ∧ pre'.length ≤ i' ∧ i' = j ∧ Hid ((pre'.map (·.1)).map (cutP d) ++ partsBy r (d.drop i') = partsBy r d) ∧ J pre' w7 ∧ Below w0.heap.size w0 w7 ∧ Hid (w7.heap[Bl]? = some (.cells #[.slice (some ⟨bb, oo, none⟩) d.length vc] 35) ∧ w7.heap[Ba]? = some (.cells #[.func (.func 170) #[] #[]] 159)) ∧ W.heap.size ≤ w7.heap.size) := Lib.hid fun w7 hJ7 hk7 => by
       refine ⟨j, _, hj2, by simp; omega, rfl, Lib.hid ?_, hJ7, (below_from hb1 HBx).trans hk7.below, Lib.hid ⟨hk7.cells _ _ hbase.1 htop.1 (heap_below HBx HBL.out.1) rfl, hk7.cells _ _ hbase.2 htop.2 (heap_below HBx HBL.out.2) rfl⟩, Nat.le_trans hz1 (Nat.le_trans HBx.size hk7.below.size)⟩
       have := parts_snoc2 HP.out HDA.out
       rw [HE2.out] at this
       rw [List.map_append]
       exact this
      obtain ⟨fn, tmps, assign, body, hy, hR⟩ := hYY
      go_upto_region 5 with fail
      refine (wpIn_wide (n := n)).1 ?_
      gi_wp2_with fail
      refine hR.mono ?_
      rintro e w7 (⟨rfl, hJ7, hk7⟩ | ⟨rfl, hJx7⟩)
      ·obtain ⟨i', pre', u1, u2, u3, u4, u5, u6, u7, u8⟩ := HNX.out w7 hJ7 hk7
       gi_wp2_with fail
       go_wp2_with fail
       go_roundw
       case rel => exact ⟨i', pre', u1, u2, by rw [u3], u4, u5, u6, u7, u8⟩
       case measure => simp [intOf]; omega
      ·gi_wp2_with fail
       go_wp2_with fail
       refine bodyPost_ret (results_none rfl _ _ _) rfl ?_
       exact ⟨⟨_, rfl⟩, .inr ⟨_, trivial, hJx7⟩⟩
     ·go_wp2_with fail
      go_roundw
      case rel => exact ⟨j + 1, by omega, hlt2, by go_num, Lib.hid ((runTo_yes HDY.out HRR.out).symm.trans HE.out), Lib.hid (below_from HB.out hx5)⟩
      case measure => simp [intOf]; omega
    ·have hjd : j = d.length := by omega
     have HE2 : Hid (runTo r a d (i + 1) = j) := Lib.hid (by rw [← HE.out, hjd]; exact runTo_end)
     have hdj : decide ((j : Int) < (d.length : Int)) = false := by simp; omega
     clear hjd
     go_wp2_with fail
     go_region
     have HBx := below_from HB.out hwr
     have hYY := HY.out pre ⟨(i, j), ⟨by omega, hj2⟩⟩ wr.drew (abides_below HJA.out HJS.out HBx) (by omega)
     have hrow : partEnc (some ⟨bb, oo, none⟩) vc 3 (⟨(i, j), ⟨by omega, hj2⟩⟩ : PartX d) = #[.slice (some ⟨bb, oo + i * 3, none⟩) (j - i) (vc - i)] := by
      unfold partEnc partV sliced
      simp only
      rw [if_neg (by omega)]
      simp only [Option.map_some, WideShapes.add_plain]
     rw [hrow] at hYY
     have HNX : Hid (∀ w7, J (pre ++ [⟨(i, j), ⟨by omega, hj2⟩⟩]) w7 → Kb w0.heap.size base top wr.drew w7 → ∃ (i' : Nat) (pre' : List (PartX d)), i' ≤ d.length ∧ pre'.length ≤ i' ∧ i' = j ∧ Hid ((pre'.map (·.1)).map (cutP d) ++ partsBy r (d.drop i') = partsBy r d) ∧ J pre' w7 ∧ Below w0.heap.size w0 w7 ∧ Hid (w7.heap[Bl]? = some (.cells #[.slice (some ⟨bb, oo, none⟩) d.length vc] 35) ∧ w7.heap[Ba]? = some (.cells #[.func (.func 170) #[] #[]] 159)) ∧ W.heap.size ≤ w7.heap.size) := Lib.hid fun w7 hJ7 hk7 => by
      refine ⟨j, _, hj2, by simp; omega, rfl, Lib.hid ?_, hJ7, (below_from hb1 HBx).trans hk7.below, Lib.hid ⟨hk7.cells _ _ hbase.1 htop.1 (heap_below HBx HBL.out.1) rfl, hk7.cells _ _ hbase.2 htop.2 (heap_below HBx HBL.out.2) rfl⟩, Nat.le_trans hz1 (Nat.le_trans HBx.size hk7.below.size)⟩
      have := parts_snoc2 HP.out HDA.out
      rw [HE2.out] at this
      rw [List.map_append]
      exact this
     obtain ⟨fn, tmps, assign, body, hy, hR⟩ := hYY
     go_upto_region 5 with fail
     refine (wpIn_wide (n := n)).1 ?_
     gi_wp2_with fail
     refine hR.mono ?_
     rintro e w7 (⟨rfl, hJ7, hk7⟩ | ⟨rfl, hJx7⟩)
     ·obtain ⟨i', pre', u1, u2, u3, u4, u5, u6, u7, u8⟩ := HNX.out w7 hJ7 hk7
      gi_wp2_with fail
      go_wp2_with fail
      go_roundw
      case rel => exact ⟨i', pre', u1, u2, by rw [u3], u4, u5, u6, u7, u8⟩
      case measure => simp [intOf]; omega
     ·gi_wp2_with fail
      go_wp2_with fail
      refine bodyPost_ret (results_none rfl _ _ _) rfl ?_
      exact ⟨⟨_, rfl⟩, .inr ⟨_, trivial, hJx7⟩⟩
  ·obtain rfl : i = d.length := by omega
   have HAll := Lib.hid (parts_all (r := r) HP.out)
   go_wp2_with fail
   go_end0
   exact ⟨⟨_, rfl⟩, .inl ⟨pre, by have h := HAll.out; rw [List.map_map] at h; exact h, hJs⟩⟩
set_option maxRecDepth 200000 in
set_option maxHeartbeats 4000000 in
theorem parts1_row (n l Bl Ba base top : Nat)  (va : Option Addr) (vc : Nat) (d : List Cel) (r : Cel → Cel → Bool) (S : Nat → Prop) (J Jx : List (PartX d) → World → Prop) (w0 W : World) (hv : CelsR false w0 S (.slice va d.length vc) d) (hb0 : Below w0.heap.size w0 W)
  (hal : ∀ X, Below w0.heap.size w0 X → ∀ x y : Cel, Calls Tryz.prog 134 #[.agg #[.int .i32 x.r, .int .i64 x.bits, .string ⟨x.href.toArray⟩], .agg #[.int .i32 y.r, .int .i64 y.bits, .string ⟨y.href.toArray⟩]] X fun e X' => e = .returned (.bool (r x y)) ∧ Below X.heap.size X X')
  (hbase : base ≤ Bl ∧ base ≤ Ba) (htop : Bl < top ∧ Ba < top) (hD : W.heap[Bl]? = some (.cells #[.slice va d.length vc] 35)) (hA : W.heap[Ba]? = some (.cells #[.func (.func 134) #[] #[]] 159))
  (hlen : d.length ≤ 100000) (hJ : AbidesFrom W.heap.size J)
  (hY : ∀ (pre : List (PartX d)) (x : PartX d) W, J pre W → pre.length < d.length → YieldAt Fence.wide (n - 1) Tryz.prog l (partEnc va vc 3 x) W fun e W' =>
   (e = .returned (.bool true) ∧ J (pre ++ [x]) W' ∧ Kb w0.heap.size base top W W') ∨ (e = .returned (.bool false) ∧ Jx (pre ++ [x]) W'))
  (h0 : J [] W) :
  CallsIn Fence.wide n Tryz.prog 147 #[.func (.yield l) #[] #[], .pointer (some ⟨Bl, 0, none⟩), .pointer (some ⟨Ba, 0, none⟩)] W fun e W' => (∃ v, e = .returned v) ∧
   ((∃ ys : List (PartX d), ys.map (fun y => cutP d y.1) = partsBy r d ∧ J ys W') ∨ (∃ pre, True ∧ Jx pre W')) := by
 refine callsIn_of_wp Tryz.func147 rfl trivial ?_ rfl
 simp only [Tryz.ntmps147, List.size_toArray, List.length_cons, List.length_nil, Nat.reduceAdd, Nat.reduceSub, Array.replicate_succ, Array.replicate_zero, List.push_toArray, List.append_toArray, List.nil_append, List.cons_append]
 have hwf : ∀ f, Fence.wide.fn f := fun _ => trivial
 have hwd : Fence.wide.depth = none := rfl
 obtain ⟨va', vc', hve, hvc, hvm, hx⟩ := cels_shape hv
 cases hve
 have HX := Lib.hid hx
 have HY := Lib.hid hY
 have HAL := Lib.hid hal
 have HJA := Lib.hid hJ
 have HBK := Lib.hid (And.intro hD hA)
 unfold maxLen at hvm
 clear hx hv hY hal hJ hD hA
 refine wpIn_wide.2 ?_
 go_wp2_with fail
 go_loopw [4, 5] (fun f _ wr => ∃ (i : Nat) (pre : List (PartX d)), i ≤ d.length ∧ pre.length ≤ i ∧ f = .int .i64 i ∧ Hid ((pre.map (·.1)).map (cutP d) ++ partsBy r (d.drop i) = partsBy r d) ∧ J pre wr ∧ Below w0.heap.size w0 wr ∧ Hid (wr.heap[Bl]? = some (.cells #[.slice va d.length vc] 35) ∧ wr.heap[Ba]? = some (.cells #[.func (.func 134) #[] #[]] 159)) ∧ W.heap.size ≤ wr.heap.size)
  (fun f _ _ => d.length - (intOf f).toNat)
 case atStart => exact ⟨0, [], Nat.zero_le _, Nat.le_refl _, rfl, Lib.hid rfl, h0, hb0, HBK, Nat.le_refl _⟩
 case round =>
  obtain ⟨i, pre, hi, hpl, rfl, HP, hJs, hb1, HBL, hz1⟩ := hrel
  obtain ⟨p1, f1⟩ := blk HBL.out.1
  obtain ⟨p2, f2⟩ := blk HBL.out.2
  by_cases hlt : i < d.length
  ·obtain ⟨a, ha, hda⟩ := getOf d i hlt
   obtain ⟨bb, oo, eva, hz, c0, c1, c2⟩ := HX.out i a ha
   subst eva
   have HDA := Lib.hid hda
   have HC := Lib.hid (And.intro hz (And.intro c0 (And.intro c1 c2)))
   have HJS := Lib.hid hJs
   clear ha hda c0 c1 c2 hJs
   go_wp2_with fail
   go_loopw [5] (fun t wq => ∃ j : Nat, i + 1 ≤ j ∧ j ≤ d.length ∧ t = .int .i64 j ∧ Hid (runTo r a d j = runTo r a d (i + 1)) ∧ Hid (Below wr.heap.size wr wq)) (fun t _ => d.length - (intOf t).toNat)
   case atStart => exact ⟨i + 1, Nat.le_refl _, hlt, by go_num, Lib.hid rfl, Lib.hid (Below.refl _ _)⟩
   case round =>
    obtain ⟨j, hj1, hj2, rfl, HE, HB⟩ := hrel
    have HW0 := Lib.hid (below_from hb1 HB.out)
    obtain ⟨q1, g1⟩ := blk (heap_below HB.out HBL.out.1)
    obtain ⟨q2, g2⟩ := blk (heap_below HB.out HBL.out.2)
    have c0 := (HW0.out.cell (p := ⟨bb, oo + i * 3, none⟩) HC.out.1).trans HC.out.2.1
    have c1 := (HW0.out.cell (p := ⟨bb, oo + i * 3 + 1, none⟩) HC.out.1).trans HC.out.2.2.1
    have c2 := (HW0.out.cell (p := ⟨bb, oo + i * 3 + 2, none⟩) HC.out.1).trans HC.out.2.2.2
    have hwr : Below wr.heap.size wr wr.drew := (Below.refl _ _).drew
    have i0 : (0 : Int) ≤ (i : Int) := Int.natCast_nonneg _
    have i1 : (i : Int) < (d.length : Int) := by omega
    have hne : ¬ vc = i := by omega
    clear p1 f1 p2 f2
    by_cases hlt2 : j < d.length
    ·obtain ⟨y, hy, hdy⟩ := getOf d j hlt2
     obtain ⟨b2, o2, e2, hz2, k0, k1, k2⟩ := HX.out j y hy
     cases e2
     have HC2 := Lib.hid (And.intro k0 (And.intro k1 k2))
     have k0 := (HW0.out.cell (p := ⟨bb, oo + j * 3, none⟩) hz2).trans k0
     have k1 := (HW0.out.cell (p := ⟨bb, oo + j * 3 + 1, none⟩) hz2).trans k1
     have k2 := (HW0.out.cell (p := ⟨bb, oo + j * 3 + 2, none⟩) hz2).trans k2
     have j0 : (0 : Int) ≤ (j : Int) := Int.natCast_nonneg _
     have j1 : (j : Int) < (d.length : Int) := by omega
     have hdj : decide ((j : Int) < (d.length : Int)) = true := by simp; omega
     have HCA : Hid (∀ X, Below wr.heap.size wr X → Calls Tryz.prog 134 #[.agg #[.int .i32 a.r, .int .i64 a.bits, .string ⟨a.href.toArray⟩], .agg #[.int .i32 y.r, .int .i64 y.bits, .string ⟨y.href.toArray⟩]] X fun e X' => e = .returned (.bool (r a y)) ∧ Below X.heap.size X X') := Lib.hid fun X hX => HAL.out X (below_from HW0.out hX) a y
     have HDY := Lib.hid hdy
     clear hy hdy
     cases hr : r a y
     all_goals
      rw [hr] at HCA
      have HRR := Lib.hid hr
      clear hr
      go_wp2_with fail
      (go_region_held3 (fun w' => w'.cell? ⟨Bl, 0, none⟩ = some (.slice (some ⟨bb, oo, none⟩) d.length vc) ∧ w'.cell? ⟨Ba, 0, none⟩ = some (.func (.func 134) #[] #[]) ∧ w'.cell? ⟨bb, oo + i * 3, none⟩ = some (.int .i32 a.r) ∧ w'.cell? ⟨bb, oo + i * 3 + 1, none⟩ = some (.int .i64 a.bits) ∧ w'.cell? ⟨bb, oo + i * 3 + 2, none⟩ = some (.string ⟨a.href.toArray⟩) ∧ w'.cell? ⟨bb, oo + j * 3, none⟩ = some (.int .i32 y.r) ∧ w'.cell? ⟨bb, oo + j * 3 + 1, none⟩ = some (.int .i64 y.bits) ∧ w'.cell? ⟨bb, oo + j * 3 + 2, none⟩ = some (.string ⟨y.href.toArray⟩)) ((first | go_keep | skip)) ((go_at_call 134; (with_reducible refine (HCA.out _ (by assumption)).mono ?_); rintro e w5 ⟨rfl, hb5⟩; have hx5 : Below wr.heap.size wr w5 := below_from (by assumption) hb5; obtain ⟨r1, s1⟩ := blk (heap_below hx5 (heap_below HB.out HBL.out.1)); obtain ⟨r2, s2⟩ := blk (heap_below hx5 (heap_below HB.out HBL.out.2)); have HW5 := below_from HW0.out hx5; have m0 := (HW5.cell (p := ⟨bb, oo + i * 3, none⟩) HC.out.1).trans HC.out.2.1; have m1 := (HW5.cell (p := ⟨bb, oo + i * 3 + 1, none⟩) HC.out.1).trans HC.out.2.2.1; have m2 := (HW5.cell (p := ⟨bb, oo + i * 3 + 2, none⟩) HC.out.1).trans HC.out.2.2.2; have n0 := (HW5.cell (p := ⟨bb, oo + j * 3, none⟩) hz2).trans HC2.out.1; have n1 := (HW5.cell (p := ⟨bb, oo + j * 3 + 1, none⟩) hz2).trans HC2.out.2.1; have n2 := (HW5.cell (p := ⟨bb, oo + j * 3 + 2, none⟩) hz2).trans HC2.out.2.2)))
     ·have HE2 : Hid (runTo r a d (i + 1) = j) := Lib.hid (HE.out.symm.trans (runTo_no HDY.out HRR.out))
      have HBx := below_from HB.out hx5
      have hYY := HY.out pre ⟨(i, j), ⟨by omega, hj2⟩⟩ w5 (abides_below HJA.out HJS.out HBx) (by omega)
      have hrow : partEnc (some ⟨bb, oo, none⟩) vc 3 (⟨(i, j), ⟨by omega, hj2⟩⟩ : PartX d) = #[.slice (some ⟨bb, oo + i * 3, none⟩) (j - i) (vc - i)] := by
       unfold partEnc partV sliced
       simp only
       rw [if_neg (by omega)]
       simp only [Option.map_some, WideShapes.add_plain]
      rw [hrow] at hYY
      have HNX : Hid (∀ w7, J (pre ++ [⟨(i, j), ⟨by omega, hj2⟩⟩]) w7 → Kb w0.heap.size base top w5 w7 → ∃ (i' : Nat) (pre' : List (PartX d)), i' ≤ d.length ∧ pre'.length ≤ i' ∧ i' = j ∧ Hid ((pre'.map (·.1)).map (cutP d) ++ partsBy r (d.drop i') = partsBy r d) ∧ J pre' w7 ∧ Below w0.heap.size w0 w7 ∧ Hid (w7.heap[Bl]? = some (.cells #[.slice (some ⟨bb, oo, none⟩) d.length vc] 35) ∧ w7.heap[Ba]? = some (.cells #[.func (.func 134) #[] #[]] 159)) ∧ W.heap.size ≤ w7.heap.size) := Lib.hid fun w7 hJ7 hk7 => by
       refine ⟨j, _, hj2, by simp; omega, rfl, Lib.hid ?_, hJ7, (below_from hb1 HBx).trans hk7.below, Lib.hid ⟨hk7.cells _ _ hbase.1 htop.1 (heap_below HBx HBL.out.1) rfl, hk7.cells _ _ hbase.2 htop.2 (heap_below HBx HBL.out.2) rfl⟩, Nat.le_trans hz1 (Nat.le_trans HBx.size hk7.below.size)⟩
       have := parts_snoc2 HP.out HDA.out
       rw [HE2.out] at this
       rw [List.map_append]
       exact this
      obtain ⟨fn, tmps, assign, body, hy, hR⟩ := hYY
      go_upto_region 5 with fail
      refine (wpIn_wide (n := n)).1 ?_
      gi_wp2_with fail
      refine hR.mono ?_
      rintro e w7 (⟨rfl, hJ7, hk7⟩ | ⟨rfl, hJx7⟩)
      ·obtain ⟨i', pre', u1, u2, u3, u4, u5, u6, u7, u8⟩ := HNX.out w7 hJ7 hk7
       gi_wp2_with fail
       go_wp2_with fail
       go_roundw
       case rel => exact ⟨i', pre', u1, u2, by rw [u3], u4, u5, u6, u7, u8⟩
       case measure => simp [intOf]; omega
      ·gi_wp2_with fail
       go_wp2_with fail
       refine bodyPost_ret (results_none rfl _ _ _) rfl ?_
       exact ⟨⟨_, rfl⟩, .inr ⟨_, trivial, hJx7⟩⟩
     ·go_wp2_with fail
      go_roundw
      case rel => exact ⟨j + 1, by omega, hlt2, by go_num, Lib.hid ((runTo_yes HDY.out HRR.out).symm.trans HE.out), Lib.hid (below_from HB.out hx5)⟩
      case measure => simp [intOf]; omega
    ·have hjd : j = d.length := by omega
     have HE2 : Hid (runTo r a d (i + 1) = j) := Lib.hid (by rw [← HE.out, hjd]; exact runTo_end)
     have hdj : decide ((j : Int) < (d.length : Int)) = false := by simp; omega
     clear hjd
     go_wp2_with fail
     go_region
     have HBx := below_from HB.out hwr
     have hYY := HY.out pre ⟨(i, j), ⟨by omega, hj2⟩⟩ wr.drew (abides_below HJA.out HJS.out HBx) (by omega)
     have hrow : partEnc (some ⟨bb, oo, none⟩) vc 3 (⟨(i, j), ⟨by omega, hj2⟩⟩ : PartX d) = #[.slice (some ⟨bb, oo + i * 3, none⟩) (j - i) (vc - i)] := by
      unfold partEnc partV sliced
      simp only
      rw [if_neg (by omega)]
      simp only [Option.map_some, WideShapes.add_plain]
     rw [hrow] at hYY
     have HNX : Hid (∀ w7, J (pre ++ [⟨(i, j), ⟨by omega, hj2⟩⟩]) w7 → Kb w0.heap.size base top wr.drew w7 → ∃ (i' : Nat) (pre' : List (PartX d)), i' ≤ d.length ∧ pre'.length ≤ i' ∧ i' = j ∧ Hid ((pre'.map (·.1)).map (cutP d) ++ partsBy r (d.drop i') = partsBy r d) ∧ J pre' w7 ∧ Below w0.heap.size w0 w7 ∧ Hid (w7.heap[Bl]? = some (.cells #[.slice (some ⟨bb, oo, none⟩) d.length vc] 35) ∧ w7.heap[Ba]? = some (.cells #[.func (.func 134) #[] #[]] 159)) ∧ W.heap.size ≤ w7.heap.size) := Lib.hid fun w7 hJ7 hk7 => by
      refine ⟨j, _, hj2, by simp; omega, rfl, Lib.hid ?_, hJ7, (below_from hb1 HBx).trans hk7.below, Lib.hid ⟨hk7.cells _ _ hbase.1 htop.1 (heap_below HBx HBL.out.1) rfl, hk7.cells _ _ hbase.2 htop.2 (heap_below HBx HBL.out.2) rfl⟩, Nat.le_trans hz1 (Nat.le_trans HBx.size hk7.below.size)⟩
      have := parts_snoc2 HP.out HDA.out
      rw [HE2.out] at this
      rw [List.map_append]
      exact this
     obtain ⟨fn, tmps, assign, body, hy, hR⟩ := hYY
     go_upto_region 5 with fail
     refine (wpIn_wide (n := n)).1 ?_
     gi_wp2_with fail
     refine hR.mono ?_
     rintro e w7 (⟨rfl, hJ7, hk7⟩ | ⟨rfl, hJx7⟩)
     ·obtain ⟨i', pre', u1, u2, u3, u4, u5, u6, u7, u8⟩ := HNX.out w7 hJ7 hk7
      gi_wp2_with fail
      go_wp2_with fail
      go_roundw
      case rel => exact ⟨i', pre', u1, u2, by rw [u3], u4, u5, u6, u7, u8⟩
      case measure => simp [intOf]; omega
     ·gi_wp2_with fail
      go_wp2_with fail
      refine bodyPost_ret (results_none rfl _ _ _) rfl ?_
      exact ⟨⟨_, rfl⟩, .inr ⟨_, trivial, hJx7⟩⟩
  ·obtain rfl : i = d.length := by omega
   have HAll := Lib.hid (parts_all (r := r) HP.out)
   go_wp2_with fail
   go_end0
   exact ⟨⟨_, rfl⟩, .inl ⟨pre, by have h := HAll.out; rw [List.map_map] at h; exact h, hJs⟩⟩
set_option maxRecDepth 200000 in
set_option maxHeartbeats 4000000 in
theorem parts1_styled (n l Bl Ba base top : Nat) (Bb : Nat) (va : Option Addr) (vc : Nat) (d : List Cel) (r : Cel → Cel → Bool) (S : Nat → Prop) (J Jx : List (PartX d) → World → Prop) (w0 W : World) (hv : CelsR false w0 S (.slice va d.length vc) d) (hb0 : Below w0.heap.size w0 W)
  (hal : ∀ X, Below w0.heap.size w0 X → ∀ x y : Cel, Calls Tryz.prog 149 #[.agg #[.int .i32 x.r, .int .i64 x.bits, .string ⟨x.href.toArray⟩], .agg #[.int .i32 y.r, .int .i64 y.bits, .string ⟨y.href.toArray⟩], .pointer (some ⟨Bb, 0, none⟩)] X fun e X' => e = .returned (.bool (r x y)) ∧ Below X.heap.size X X')
  (hbase : base ≤ Bl ∧ base ≤ Ba) (htop : Bl < top ∧ Ba < top) (hD : W.heap[Bl]? = some (.cells #[.slice va d.length vc] 35)) (hA : W.heap[Ba]? = some (.cells #[.func (.func 149) #[] #[.pointer (some ⟨Bb, 0, none⟩)]] 159))
  (hlen : d.length ≤ 100000) (hJ : AbidesFrom W.heap.size J)
  (hY : ∀ (pre : List (PartX d)) (x : PartX d) W, J pre W → pre.length < d.length → YieldAt Fence.wide (n - 1) Tryz.prog l (partEnc va vc 3 x) W fun e W' =>
   (e = .returned (.bool true) ∧ J (pre ++ [x]) W' ∧ Kb w0.heap.size base top W W') ∨ (e = .returned (.bool false) ∧ Jx (pre ++ [x]) W'))
  (h0 : J [] W) :
  CallsIn Fence.wide n Tryz.prog 147 #[.func (.yield l) #[] #[], .pointer (some ⟨Bl, 0, none⟩), .pointer (some ⟨Ba, 0, none⟩)] W fun e W' => (∃ v, e = .returned v) ∧
   ((∃ ys : List (PartX d), ys.map (fun y => cutP d y.1) = partsBy r d ∧ J ys W') ∨ (∃ pre, True ∧ Jx pre W')) := by
 refine callsIn_of_wp Tryz.func147 rfl trivial ?_ rfl
 simp only [Tryz.ntmps147, List.size_toArray, List.length_cons, List.length_nil, Nat.reduceAdd, Nat.reduceSub, Array.replicate_succ, Array.replicate_zero, List.push_toArray, List.append_toArray, List.nil_append, List.cons_append]
 have hwf : ∀ f, Fence.wide.fn f := fun _ => trivial
 have hwd : Fence.wide.depth = none := rfl
 obtain ⟨va', vc', hve, hvc, hvm, hx⟩ := cels_shape hv
 cases hve
 have HX := Lib.hid hx
 have HY := Lib.hid hY
 have HAL := Lib.hid hal
 have HJA := Lib.hid hJ
 have HBK := Lib.hid (And.intro hD hA)
 unfold maxLen at hvm
 clear hx hv hY hal hJ hD hA
 refine wpIn_wide.2 ?_
 go_wp2_with fail
 go_loopw [4, 5] (fun f _ wr => ∃ (i : Nat) (pre : List (PartX d)), i ≤ d.length ∧ pre.length ≤ i ∧ f = .int .i64 i ∧ Hid ((pre.map (·.1)).map (cutP d) ++ partsBy r (d.drop i) = partsBy r d) ∧ J pre wr ∧ Below w0.heap.size w0 wr ∧ Hid (wr.heap[Bl]? = some (.cells #[.slice va d.length vc] 35) ∧ wr.heap[Ba]? = some (.cells #[.func (.func 149) #[] #[.pointer (some ⟨Bb, 0, none⟩)]] 159)) ∧ W.heap.size ≤ wr.heap.size)
  (fun f _ _ => d.length - (intOf f).toNat)
 case atStart => exact ⟨0, [], Nat.zero_le _, Nat.le_refl _, rfl, Lib.hid rfl, h0, hb0, HBK, Nat.le_refl _⟩
 case round =>
  obtain ⟨i, pre, hi, hpl, rfl, HP, hJs, hb1, HBL, hz1⟩ := hrel
  obtain ⟨p1, f1⟩ := blk HBL.out.1
  obtain ⟨p2, f2⟩ := blk HBL.out.2
  by_cases hlt : i < d.length
  ·obtain ⟨a, ha, hda⟩ := getOf d i hlt
   obtain ⟨bb, oo, eva, hz, c0, c1, c2⟩ := HX.out i a ha
   subst eva
   have HDA := Lib.hid hda
   have HC := Lib.hid (And.intro hz (And.intro c0 (And.intro c1 c2)))
   have HJS := Lib.hid hJs
   clear ha hda c0 c1 c2 hJs
   go_wp2_with fail
   go_loopw [5] (fun t wq => ∃ j : Nat, i + 1 ≤ j ∧ j ≤ d.length ∧ t = .int .i64 j ∧ Hid (runTo r a d j = runTo r a d (i + 1)) ∧ Hid (Below wr.heap.size wr wq)) (fun t _ => d.length - (intOf t).toNat)
   case atStart => exact ⟨i + 1, Nat.le_refl _, hlt, by go_num, Lib.hid rfl, Lib.hid (Below.refl _ _)⟩
   case round =>
    obtain ⟨j, hj1, hj2, rfl, HE, HB⟩ := hrel
    have HW0 := Lib.hid (below_from hb1 HB.out)
    obtain ⟨q1, g1⟩ := blk (heap_below HB.out HBL.out.1)
    obtain ⟨q2, g2⟩ := blk (heap_below HB.out HBL.out.2)
    have c0 := (HW0.out.cell (p := ⟨bb, oo + i * 3, none⟩) HC.out.1).trans HC.out.2.1
    have c1 := (HW0.out.cell (p := ⟨bb, oo + i * 3 + 1, none⟩) HC.out.1).trans HC.out.2.2.1
    have c2 := (HW0.out.cell (p := ⟨bb, oo + i * 3 + 2, none⟩) HC.out.1).trans HC.out.2.2.2
    have hwr : Below wr.heap.size wr wr.drew := (Below.refl _ _).drew
    have i0 : (0 : Int) ≤ (i : Int) := Int.natCast_nonneg _
    have i1 : (i : Int) < (d.length : Int) := by omega
    have hne : ¬ vc = i := by omega
    clear p1 f1 p2 f2
    by_cases hlt2 : j < d.length
    ·obtain ⟨y, hy, hdy⟩ := getOf d j hlt2
     obtain ⟨b2, o2, e2, hz2, k0, k1, k2⟩ := HX.out j y hy
     cases e2
     have HC2 := Lib.hid (And.intro k0 (And.intro k1 k2))
     have k0 := (HW0.out.cell (p := ⟨bb, oo + j * 3, none⟩) hz2).trans k0
     have k1 := (HW0.out.cell (p := ⟨bb, oo + j * 3 + 1, none⟩) hz2).trans k1
     have k2 := (HW0.out.cell (p := ⟨bb, oo + j * 3 + 2, none⟩) hz2).trans k2
     have j0 : (0 : Int) ≤ (j : Int) := Int.natCast_nonneg _
     have j1 : (j : Int) < (d.length : Int) := by omega
     have hdj : decide ((j : Int) < (d.length : Int)) = true := by simp; omega
     have HCA : Hid (∀ X, Below wr.heap.size wr X → Calls Tryz.prog 149 #[.agg #[.int .i32 a.r, .int .i64 a.bits, .string ⟨a.href.toArray⟩], .agg #[.int .i32 y.r, .int .i64 y.bits, .string ⟨y.href.toArray⟩], .pointer (some ⟨Bb, 0, none⟩)] X fun e X' => e = .returned (.bool (r a y)) ∧ Below X.heap.size X X') := Lib.hid fun X hX => HAL.out X (below_from HW0.out hX) a y
     have HDY := Lib.hid hdy
     clear hy hdy
     cases hr : r a y
     all_goals
      rw [hr] at HCA
      have HRR := Lib.hid hr
      clear hr
      go_wp2_with fail
      (go_region_held3 (fun w' => w'.cell? ⟨Bl, 0, none⟩ = some (.slice (some ⟨bb, oo, none⟩) d.length vc) ∧ w'.cell? ⟨Ba, 0, none⟩ = some (.func (.func 149) #[] #[.pointer (some ⟨Bb, 0, none⟩)]) ∧ w'.cell? ⟨bb, oo + i * 3, none⟩ = some (.int .i32 a.r) ∧ w'.cell? ⟨bb, oo + i * 3 + 1, none⟩ = some (.int .i64 a.bits) ∧ w'.cell? ⟨bb, oo + i * 3 + 2, none⟩ = some (.string ⟨a.href.toArray⟩) ∧ w'.cell? ⟨bb, oo + j * 3, none⟩ = some (.int .i32 y.r) ∧ w'.cell? ⟨bb, oo + j * 3 + 1, none⟩ = some (.int .i64 y.bits) ∧ w'.cell? ⟨bb, oo + j * 3 + 2, none⟩ = some (.string ⟨y.href.toArray⟩)) ((first | go_keep | skip)) ((go_at_call 149; (with_reducible refine (HCA.out _ (by assumption)).mono ?_); rintro e w5 ⟨rfl, hb5⟩; have hx5 : Below wr.heap.size wr w5 := below_from (by assumption) hb5; obtain ⟨r1, s1⟩ := blk (heap_below hx5 (heap_below HB.out HBL.out.1)); obtain ⟨r2, s2⟩ := blk (heap_below hx5 (heap_below HB.out HBL.out.2)); have HW5 := below_from HW0.out hx5; have m0 := (HW5.cell (p := ⟨bb, oo + i * 3, none⟩) HC.out.1).trans HC.out.2.1; have m1 := (HW5.cell (p := ⟨bb, oo + i * 3 + 1, none⟩) HC.out.1).trans HC.out.2.2.1; have m2 := (HW5.cell (p := ⟨bb, oo + i * 3 + 2, none⟩) HC.out.1).trans HC.out.2.2.2; have n0 := (HW5.cell (p := ⟨bb, oo + j * 3, none⟩) hz2).trans HC2.out.1; have n1 := (HW5.cell (p := ⟨bb, oo + j * 3 + 1, none⟩) hz2).trans HC2.out.2.1; have n2 := (HW5.cell (p := ⟨bb, oo + j * 3 + 2, none⟩) hz2).trans HC2.out.2.2)))
     ·have HE2 : Hid (runTo r a d (i + 1) = j) := Lib.hid (HE.out.symm.trans (runTo_no HDY.out HRR.out))
      have HBx := below_from HB.out hx5
      have hYY := HY.out pre ⟨(i, j), ⟨by omega, hj2⟩⟩ w5 (abides_below HJA.out HJS.out HBx) (by omega)
      have hrow : partEnc (some ⟨bb, oo, none⟩) vc 3 (⟨(i, j), ⟨by omega, hj2⟩⟩ : PartX d) = #[.slice (some ⟨bb, oo + i * 3, none⟩) (j - i) (vc - i)] := by
       unfold partEnc partV sliced
       simp only
       rw [if_neg (by omega)]
       simp only [Option.map_some, WideShapes.add_plain]
      rw [hrow] at hYY
      have HNX : Hid (∀ w7, J (pre ++ [⟨(i, j), ⟨by omega, hj2⟩⟩]) w7 → Kb w0.heap.size base top w5 w7 → ∃ (i' : Nat) (pre' : List (PartX d)), i' ≤ d.length ∧ pre'.length ≤ i' ∧ i' = j ∧ Hid ((pre'.map (·.1)).map (cutP d) ++ partsBy r (d.drop i') = partsBy r d) ∧ J pre' w7 ∧ Below w0.heap.size w0 w7 ∧ Hid (w7.heap[Bl]? = some (.cells #[.slice (some ⟨bb, oo, none⟩) d.length vc] 35) ∧ w7.heap[Ba]? = some (.cells #[.func (.func 149) #[] #[.pointer (some ⟨Bb, 0, none⟩)]] 159)) ∧ W.heap.size ≤ w7.heap.size) := Lib.hid fun w7 hJ7 hk7 => by
       refine ⟨j, _, hj2, by simp; omega, rfl, Lib.hid ?_, hJ7, (below_from hb1 HBx).trans hk7.below, Lib.hid ⟨hk7.cells _ _ hbase.1 htop.1 (heap_below HBx HBL.out.1) rfl, hk7.cells _ _ hbase.2 htop.2 (heap_below HBx HBL.out.2) rfl⟩, Nat.le_trans hz1 (Nat.le_trans HBx.size hk7.below.size)⟩
       have := parts_snoc2 HP.out HDA.out
       rw [HE2.out] at this
       rw [List.map_append]
       exact this
      obtain ⟨fn, tmps, assign, body, hy, hR⟩ := hYY
      go_upto_region 5 with fail
      refine (wpIn_wide (n := n)).1 ?_
      gi_wp2_with fail
      refine hR.mono ?_
      rintro e w7 (⟨rfl, hJ7, hk7⟩ | ⟨rfl, hJx7⟩)
      ·obtain ⟨i', pre', u1, u2, u3, u4, u5, u6, u7, u8⟩ := HNX.out w7 hJ7 hk7
       gi_wp2_with fail
       go_wp2_with fail
       go_roundw
       case rel => exact ⟨i', pre', u1, u2, by rw [u3], u4, u5, u6, u7, u8⟩
       case measure => simp [intOf]; omega
      ·gi_wp2_with fail
       go_wp2_with fail
       refine bodyPost_ret (results_none rfl _ _ _) rfl ?_
       exact ⟨⟨_, rfl⟩, .inr ⟨_, trivial, hJx7⟩⟩
     ·go_wp2_with fail
      go_roundw
      case rel => exact ⟨j + 1, by omega, hlt2, by go_num, Lib.hid ((runTo_yes HDY.out HRR.out).symm.trans HE.out), Lib.hid (below_from HB.out hx5)⟩
      case measure => simp [intOf]; omega
    ·have hjd : j = d.length := by omega
     have HE2 : Hid (runTo r a d (i + 1) = j) := Lib.hid (by rw [← HE.out, hjd]; exact runTo_end)
     have hdj : decide ((j : Int) < (d.length : Int)) = false := by simp; omega
     clear hjd
     go_wp2_with fail
     go_region
     have HBx := below_from HB.out hwr
     have hYY := HY.out pre ⟨(i, j), ⟨by omega, hj2⟩⟩ wr.drew (abides_below HJA.out HJS.out HBx) (by omega)
     have hrow : partEnc (some ⟨bb, oo, none⟩) vc 3 (⟨(i, j), ⟨by omega, hj2⟩⟩ : PartX d) = #[.slice (some ⟨bb, oo + i * 3, none⟩) (j - i) (vc - i)] := by
      unfold partEnc partV sliced
      simp only
      rw [if_neg (by omega)]
      simp only [Option.map_some, WideShapes.add_plain]
     rw [hrow] at hYY
     have HNX : Hid (∀ w7, J (pre ++ [⟨(i, j), ⟨by omega, hj2⟩⟩]) w7 → Kb w0.heap.size base top wr.drew w7 → ∃ (i' : Nat) (pre' : List (PartX d)), i' ≤ d.length ∧ pre'.length ≤ i' ∧ i' = j ∧ Hid ((pre'.map (·.1)).map (cutP d) ++ partsBy r (d.drop i') = partsBy r d) ∧ J pre' w7 ∧ Below w0.heap.size w0 w7 ∧ Hid (w7.heap[Bl]? = some (.cells #[.slice (some ⟨bb, oo, none⟩) d.length vc] 35) ∧ w7.heap[Ba]? = some (.cells #[.func (.func 149) #[] #[.pointer (some ⟨Bb, 0, none⟩)]] 159)) ∧ W.heap.size ≤ w7.heap.size) := Lib.hid fun w7 hJ7 hk7 => by
      refine ⟨j, _, hj2, by simp; omega, rfl, Lib.hid ?_, hJ7, (below_from hb1 HBx).trans hk7.below, Lib.hid ⟨hk7.cells _ _ hbase.1 htop.1 (heap_below HBx HBL.out.1) rfl, hk7.cells _ _ hbase.2 htop.2 (heap_below HBx HBL.out.2) rfl⟩, Nat.le_trans hz1 (Nat.le_trans HBx.size hk7.below.size)⟩
      have := parts_snoc2 HP.out HDA.out
      rw [HE2.out] at this
      rw [List.map_append]
      exact this
     obtain ⟨fn, tmps, assign, body, hy, hR⟩ := hYY
     go_upto_region 5 with fail
     refine (wpIn_wide (n := n)).1 ?_
     gi_wp2_with fail
     refine hR.mono ?_
     rintro e w7 (⟨rfl, hJ7, hk7⟩ | ⟨rfl, hJx7⟩)
     ·obtain ⟨i', pre', u1, u2, u3, u4, u5, u6, u7, u8⟩ := HNX.out w7 hJ7 hk7
      gi_wp2_with fail
      go_wp2_with fail
      go_roundw
      case rel => exact ⟨i', pre', u1, u2, by rw [u3], u4, u5, u6, u7, u8⟩
      case measure => simp [intOf]; omega
     ·gi_wp2_with fail
      go_wp2_with fail
      refine bodyPost_ret (results_none rfl _ _ _) rfl ?_
      exact ⟨⟨_, rfl⟩, .inr ⟨_, trivial, hJx7⟩⟩
  ·obtain rfl : i = d.length := by omega
   have HAll := Lib.hid (parts_all (r := r) HP.out)
   go_wp2_with fail
   go_end0
   exact ⟨⟨_, rfl⟩, .inl ⟨pre, by have h := HAll.out; rw [List.map_map] at h; exact h, hJs⟩⟩
end Go.Proofs.YtjpgffihafknlaaGreatDoor
namespace Go.Proofs.Qw
open Go.RowKit
section
variable {P : Program} {ops : Array Oper} {Q : Exit → Act → World → Prop} {md : Region.Mode} {A B : World → Prop} {t : Nat}
def wpAnyT (P : Program) (md : Region.Mode) (ops : Array Oper) (Q : Exit → Act → World → Prop) (A B : World → Prop) (t : Nat) : Nat → Array Bool → Act → World → Prop
 | 0, L, a, w => Region.ready md ops L = [] ∧ Q .normal a w
 | f + 1, L, a, w => (Region.ready md ops L = [] → Q .normal a w) ∧
  ∀ i ∈ Region.ready md ops L, wpOp P ops Q i (fun a' w' => (A w' ∧ ((L.setIfInBounds i true).getD t true = false → B w')) ∧ wpAnyT P md ops Q A B t f (L.setIfInBounds i true) a' w') a w
theorem any_of_T : ∀ (f : Nat) (L : Array Bool) (a : Act) (w : World), wpAnyT P md ops Q A B t f L a w → wpAny P md ops Q f L a w
 | 0, _, _, _, h => h
 | f + 1, _, _, _, h => ⟨h.1, fun i hi => wpOp_mono (fun a' w' h' => any_of_T f _ a' w' h'.2) (h.2 i hi)⟩
def waitsFor (md : Region.Mode) (ops : Array Oper) (t i : Nat) : Bool := match ops[t]? with | some o => o.after.any (fun e => Region.binds md e && e.on == i) | none => false
theorem firstT {i : Nat} {oi : Oper} {v : Value} (hi : ops[i]? = some oi) (hsel : ∀ (j : Nat) (o : Oper) cs b, ops[j]? = some o → o.op ≠ .select cs b)
  (hQ : ∀ c a w, Q (.panic c) (a.put oi.dst v) w → Q (.panic c) a w) (hwt : waitsFor md ops t i = true) (hti : t ≠ i) :
  ∀ (f : Nat) (L : Array Bool) (a : Act) (w : World),
   (∀ j oj, ops[j]? = some oj → j ≠ i → L.getD j true = false → (∀ e ∈ oj.after, Region.binds md e = true → e.on ≠ i) → oi.apart ops oj = true) →
   i ∈ Region.ready md ops L → L.getD t true = false → YieldsIf P ops (fun w => A w ∧ B w) oi v a → A w → B w →
   wpAnyT P md ops Q A B t f (L.setIfInBounds i true) (a.put oi.dst v) w → wpAnyT P md ops Q A B t (f + 1) L a w := by
 intro f
 induction f with
 | zero =>
  intro L a w _ hr ht hy hA hB H
  refine ⟨fun h => (by rw [h] at hr; cases hr), fun j hj => ?_⟩
  by_cases hji : j = i
  ·subst hji
   exact hy.wpOp hi ⟨hA, hB⟩ ⟨⟨hA, fun _ => hB⟩, H⟩
  ·have := ready_mono hj hji
   rw [H.1] at this
   cases this
 | succ f ih =>
  intro L a w hfree hr ht hy hA hB H
  refine ⟨fun h => (by rw [h] at hr; cases hr), fun j hj => ?_⟩
  by_cases hji : j = i
  ·subst hji
   exact hy.wpOp hi ⟨hA, hB⟩ ⟨⟨hA, fun _ => hB⟩, H⟩
  ·have h1 := H.2 j (ready_mono hj hji)
   obtain ⟨hjun, oj, hoj, hall⟩ := mem_ready.1 hj
   have hiun := (mem_ready.1 hr).1
   have hlisted : ∀ e ∈ oj.after, Region.binds md e = true → e.on ≠ i := fun e he hb heq => by
    have g1 := hall e he hb
    rw [heq] at g1
    rcases Nat.lt_or_ge i L.size with h' | h'
    ·simp [h'] at hiun g1
     rw [hiun] at g1
     cases g1
    ·simp [Array.getElem?_eq_none h'] at g1
   have hjt : j ≠ t := by
    rintro rfl
    unfold waitsFor at hwt
    rw [hoj] at hwt
    obtain ⟨k, hk, he⟩ := Array.any_eq_true.1 hwt
    simp only [Bool.and_eq_true, beq_iff_eq] at he
    exact hlisted _ (Array.getElem_mem _) he.1 he.2
   have h2 := wpOp_putIf hoj (hfree j oj hoj hji hjun hlisted) (fun cs b => hsel i oi cs b hi) (fun cs b => hsel j oj cs b hoj) hQ hy h1
   have hfree' : ∀ k ok, ops[k]? = some ok → k ≠ i → (L.setIfInBounds j true).getD k true = false →
     (∀ e ∈ ok.after, Region.binds md e = true → e.on ≠ i) → oi.apart ops ok = true := fun k ok hk hki hun hno => by
    refine hfree k ok hk hki ?_ hno
    by_cases hjk : j = k
    ·subst hjk; exact hjun
    ·rw [getD_set_ne true hjk] at hun; exact hun
   have htj : (L.setIfInBounds j true).getD t true = false := by rw [getD_set_ne true hjt]; exact ht
   have htij : ((L.setIfInBounds i true).setIfInBounds j true).getD t true = false := by rw [getD_set_ne true hjt, getD_set_ne true (Ne.symm hti)]; exact ht
   refine wpOp_mono (fun a' w' h3 => ?_) h2
   have hA' := h3.2.1.1
   have hB' := h3.2.1.2 htij
   refine ⟨⟨hA', fun _ => hB'⟩, ih (L.setIfInBounds j true) a' w' hfree' (ready_mono hr (Ne.symm hji)) htj h3.1 hA' hB' ?_⟩
   rw [Array.setIfInBounds_comm _ _ hji]
   exact h3.2.2
theorem firstA {i : Nat} {oi : Oper} {v : Value} (hi : ops[i]? = some oi) (hsel : ∀ (j : Nat) (o : Oper) cs b, ops[j]? = some o → o.op ≠ .select cs b)
  (hQ : ∀ c a w, Q (.panic c) (a.put oi.dst v) w → Q (.panic c) a w) (hti : t ≠ i) :
  ∀ (f : Nat) (L : Array Bool) (a : Act) (w : World),
   (∀ j oj, ops[j]? = some oj → j ≠ i → L.getD j true = false → (∀ e ∈ oj.after, Region.binds md e = true → e.on ≠ i) → oi.apart ops oj = true) →
   i ∈ Region.ready md ops L → YieldsIf P ops A oi v a → A w → (L.getD t true = true ∨ B w) →
   wpAnyT P md ops Q A B t f (L.setIfInBounds i true) (a.put oi.dst v) w → wpAnyT P md ops Q A B t (f + 1) L a w := by
 intro f
 have hset : ∀ (L : Array Bool) {x : World}, (L.getD t true = true ∨ B x) → ((L.setIfInBounds i true).getD t true = false → B x) := fun L x h e => by
  rw [getD_set_ne true (Ne.symm hti)] at e
  exact h.resolve_left (fun e' => by rw [e] at e'; cases e')
 induction f with
 | zero =>
  intro L a w _ hr hy hA hB H
  refine ⟨fun h => (by rw [h] at hr; cases hr), fun j hj => ?_⟩
  by_cases hji : j = i
  ·subst hji
   exact hy.wpOp hi hA ⟨⟨hA, hset L hB⟩, H⟩
  ·have := ready_mono hj hji
   rw [H.1] at this
   cases this
 | succ f ih =>
  intro L a w hfree hr hy hA hB H
  refine ⟨fun h => (by rw [h] at hr; cases hr), fun j hj => ?_⟩
  by_cases hji : j = i
  ·subst hji
   exact hy.wpOp hi hA ⟨⟨hA, hset L hB⟩, H⟩
  ·have h1 := H.2 j (ready_mono hj hji)
   obtain ⟨hjun, oj, hoj, hall⟩ := mem_ready.1 hj
   have hiun := (mem_ready.1 hr).1
   have hlisted : ∀ e ∈ oj.after, Region.binds md e = true → e.on ≠ i := fun e he hb heq => by
    have g1 := hall e he hb
    rw [heq] at g1
    rcases Nat.lt_or_ge i L.size with h' | h'
    ·simp [h'] at hiun g1
     rw [hiun] at g1
     cases g1
    ·simp [Array.getElem?_eq_none h'] at g1
   have h2 := wpOp_putIf hoj (hfree j oj hoj hji hjun hlisted) (fun cs b => hsel i oi cs b hi) (fun cs b => hsel j oj cs b hoj) hQ hy h1
   have hfree' : ∀ k ok, ops[k]? = some ok → k ≠ i → (L.setIfInBounds j true).getD k true = false →
     (∀ e ∈ ok.after, Region.binds md e = true → e.on ≠ i) → oi.apart ops ok = true := fun k ok hk hki hun hno => by
    refine hfree k ok hk hki ?_ hno
    by_cases hjk : j = k
    ·subst hjk; exact hjun
    ·rw [getD_set_ne true hjk] at hun; exact hun
   refine wpOp_mono (fun a' w' h3 => ?_) h2
   have hA' := h3.2.1.1
   have hB' : ((L.setIfInBounds j true).getD t true = true ∨ B w') := by
    cases e : (L.setIfInBounds j true).getD t true with
    | true => exact .inl rfl
    | false => exact .inr (h3.2.1.2 (by rw [Array.setIfInBounds_comm _ _ (Ne.symm hji), getD_set_ne true (Ne.symm hti)]; exact e))
   refine ⟨⟨hA', fun e => hB'.resolve_left (fun e' => by rw [e] at e'; cases e')⟩, ih (L.setIfInBounds j true) a' w' hfree' (ready_mono hr (Ne.symm hji)) h3.1 hA' hB' ?_⟩
   rw [Array.setIfInBounds_comm _ _ hji]
   exact h3.2.2
theorem anyT_takeA {i : Nat} {oi : Oper} {v : Value} {f : Nat} {L : Array Bool} {a : Act} {w : World} (hi : ops[i]? = some oi)
  (hs : Region.noSelect ops = true) (hf : Region.free md ops L i = true) (hr : (Region.ready md ops L).contains i = true) (hti : (!(t == i)) = true)
  (hQ : ∀ c a w, Q (.panic c) (a.put oi.dst v) w → Q (.panic c) a w) (hy : YieldsIf P ops A oi v a) (hA : A w) (hB : L.getD t true = true ∨ B w)
  (h : wpAnyT P md ops Q A B t f (L.setIfInBounds i true) (a.put oi.dst v) w) : wpAnyT P md ops Q A B t (f + 1) L a w := by
 simp only [Bool.not_eq_true', beq_eq_false_iff_ne, ne_eq] at hti
 exact firstA hi (Region.noSelect_spec hs) hQ hti f L a w (Region.free_spec hi hf) (by simpa using hr) hy hA hB h
theorem anyT_take {i : Nat} {oi : Oper} {v : Value} {f : Nat} {L : Array Bool} {a : Act} {w : World} (hi : ops[i]? = some oi)
  (hs : Region.noSelect ops = true) (hf : Region.free md ops L i = true) (hr : (Region.ready md ops L).contains i = true) (hwt : (waitsFor md ops t i && !(t == i) && !(L.getD t true)) = true)
  (hQ : ∀ c a w, Q (.panic c) (a.put oi.dst v) w → Q (.panic c) a w) (hy : YieldsIf P ops (fun w => A w ∧ B w) oi v a) (hS : A w ∧ B w)
  (h : wpAnyT P md ops Q A B t f (L.setIfInBounds i true) (a.put oi.dst v) w) : wpAnyT P md ops Q A B t (f + 1) L a w := by
 simp only [Bool.and_eq_true, Bool.not_eq_true', beq_eq_false_iff_ne, ne_eq] at hwt
 exact firstT hi (Region.noSelect_spec hs) hQ hwt.1.1 hwt.1.2 f L a w (Region.free_spec hi hf) (by simpa using hr) hwt.2 hy hS.1 hS.2 h
def AllReadyT (P : Program) (md : Region.Mode) (ops : Array Oper) (Q : Exit → Act → World → Prop) (A B : World → Prop) (t f : Nat) (L : Array Bool) (a : Act) (w : World) (rs : List Nat) : Prop :=
 ∀ i ∈ rs, wpOp P ops Q i (fun a' w' => (A w' ∧ ((L.setIfInBounds i true).getD t true = false → B w')) ∧ wpAnyT P md ops Q A B t f (L.setIfInBounds i true) a' w') a w
theorem anyT_ready {rs : List Nat} {f : Nat} {L : Array Bool} {a : Act} {w : World} (hr : Region.ready md ops L = rs) (hne : rs ≠ []) (h : AllReadyT P md ops Q A B t f L a w rs) : wpAnyT P md ops Q A B t (f + 1) L a w :=
 ⟨fun h0 => absurd (hr ▸ h0) hne, hr ▸ h⟩
theorem AllReadyT.nil {f : Nat} {L : Array Bool} {a : Act} {w : World} : AllReadyT P md ops Q A B t f L a w [] := fun _ h => by cases h
theorem AllReadyT.cons {f : Nat} {L : Array Bool} {a : Act} {w : World} {i : Nat} {o : Oper} {rs : List Nat} (ho : ops[i]? = some o)
  (h : ∀ K' : Act → World → Prop, Shut (∀ a w, A w → ((L.setIfInBounds i true).getD t true = true ∨ B w) → wpAnyT P md ops Q A B t f (L.setIfInBounds i true) a w → K' a w) → if Region.wanted o (yielded ops a.tmps) = true then Oper.wp P o a w K' Q else K' (a.put o.dst undef) w)
  (hs : AllReadyT P md ops Q A B t f L a w rs) : AllReadyT P md ops Q A B t f L a w (i :: rs) := fun j hj => by
 rcases List.mem_cons.1 hj with rfl | hj
 ·exact wpOp_step ho (fun K' hK => h K' (fun a w hA hB hW => hK a w ⟨⟨hA, fun e => hB.resolve_left (fun e' => by rw [e] at e'; cases e')⟩, hW⟩))
 ·exact hs j hj
theorem anyT_done {L : Array Bool} {a : Act} {w : World} (hr : Region.ready md ops L = []) (h : Q .normal a w) : ∀ f, wpAnyT P md ops Q A B t f L a w
 | 0 => ⟨hr, h⟩
 | _ + 1 => ⟨fun _ => h, by rw [hr]; simp⟩
theorem wp_region_T {id : Nat} {a : Act} {w : World} (A B : World → Prop) (t : Nat) (hm : P.follows .mixedOrders = true) (h : wpAnyT P .any ops (NoPanic Q) A B t ops.size (Array.replicate ops.size false) a w.drew) : (Code.region id ops true).wp P Q a w :=
 wp_region_noPanic (wp_region_any hm (any_of_T _ _ _ _ h))
end
section
variable {n l : Nat} {P : Program} {ops : Array Oper}
theorem wpIn_region_T {id : Nat} {Q : Exit → Act → World → Prop} {a : Act} {w : World} (A B : World → Prop) (t : Nat) (hnd : ops.toList.all plainOp = true) (hm : P.follows .mixedOrders = true)
  (h : ∀ R : Act → World → Prop, Shut (∀ a w, Q .normal a w → R a w) → wpAnyT P .any ops (EndsIn R) A B t ops.size (Array.replicate ops.size false) a w.drew) : (Code.region id ops true).wpIn (Fence.wide.inRound l) n P Q a w := by
 have hnd2 : ∀ (i : Nat) (o : Oper), ops[i]? = some o → plainOp o = true := fun i o ho => by
  rw [List.all_eq_true] at hnd
  exact hnd o (List.mem_of_getElem? (by simpa using ho))
 exact wpIn_region_any hm (wpAnyIn_of_wpAnyR hnd2 (fun _ _ h => h) _ _ _ _ (any_of_T _ _ _ _ (h (Q .normal) (fun _ _ h => h))))
end
end Go.Proofs.Qw
namespace Go.Proofs.Qw
open Go.RowKit
def encAtt (a : Att) : List Value := [.string ⟨a.name.toArray⟩, .string ⟨a.value.toArray⟩]
abbrev AttsR (own : Bool) (w : World) (S : Nat → Prop) (v : Value) (l : List Att) : Prop := SliceR 105 2 (rdOf encAtt) own w S v l
def rdNod (own : Bool) : Nat → Rd Nod
 | 0 => fun _ _ _ _ => False
 | h + 1 => fun w S vs n => ∃ a k, vs = [.int .i64 n.tag, a, .string ⟨n.text.toArray⟩, k] ∧ AttsR own w S a n.attrs ∧ SliceR 25 4 (rdNod own h) own w S k n.kids
abbrev NodsR (own : Bool) (h : Nat) (w : World) (S : Nat → Prop) (v : Value) (l : List Nod) : Prop := SliceR 25 4 (rdNod own h) own w S v l
theorem rdNod_stable (own : Bool) : ∀ h, Stable (rdNod own h)
 | 0 => ⟨fun _ _ _ _ _ _ h _ _ => h⟩
 | h + 1 => ⟨fun _ _ _ _ _ _ ⟨a, k, h1, h2, h3⟩ hk hS => ⟨a, k, h1, SliceR.stable (rdOf_stable _) h2 hk hS, SliceR.stable (rdNod_stable own h) h3 hk hS⟩⟩
theorem SliceR.imp {α : Type} {t : TypeId} {k : Nat} {R R' : Rd α} {own : Bool} {w : World} {S : Nat → Prop} {v : Value} {xs : List α} (hR : ∀ vs x, x ∈ xs → R w S vs x → R' w S vs x) (h : SliceR t k R own w S v xs) : SliceR t k R' own w S v xs := by
 obtain ⟨a, c, h1, h2, h3, h | ⟨b, o, rfl, hb, hz, hf, he⟩⟩ := h
 ·exact ⟨a, c, h1, h2, h3, .inl h⟩
 ·exact ⟨_, c, h1, h2, h3, .inr ⟨b, o, rfl, hb, hz, hf, fun i x hx => by
   obtain ⟨vs, g1, g2, g3⟩ := he i x hx
   exact ⟨vs, g1, hR _ _ (List.mem_of_getElem? hx) g2, g3⟩⟩⟩
theorem rdNod_read : ∀ {h : Nat} {own : Bool} {w : World} {S : Nat → Prop} {vs : List Value} {n : Nod}, rdNod own h w S vs n → rdNod false h w S vs n
 | 0, _, _, _, _, _, h => h
 | h + 1, _, _, _, _, _, ⟨a, k, h1, h2, h3⟩ => ⟨a, k, h1, h2.read fun _ _ h => h, h3.read fun _ _ h => rdNod_read h⟩
theorem rdNod_succ : ∀ {h : Nat} {own : Bool} {w : World} {S : Nat → Prop} {vs : List Value} {n : Nod}, rdNod own h w S vs n → rdNod own (h + 1) w S vs n
 | 0, _, _, _, _, _, h => h.elim
 | h + 1, _, _, _, _, _, ⟨a, k, h1, h2, h3⟩ => ⟨a, k, h1, h2, h3.imp fun _ _ _ h => rdNod_succ h⟩
theorem rdNod_mono {h h' : Nat} {own : Bool} {w : World} {S : Nat → Prop} {vs : List Value} {n : Nod} (hh : h ≤ h') (hn : rdNod own h w S vs n) : rdNod own h' w S vs n := by
 induction hh with
 | refl => exact hn
 | step _ ih => exact rdNod_succ ih
def NodV (own : Bool) (h : Nat) (w : World) (S : Nat → Prop) (v : Value) (n : Nod) : Prop := ∃ a k, v = .agg #[.int .i64 n.tag, a, .string ⟨n.text.toArray⟩, k] ∧ AttsR own w S a n.attrs ∧ NodsR own h w S k n.kids
theorem NodV.below {own : Bool} {h : Nat} {w w' : World} {S : Nat → Prop} {v : Value} {n : Nod} (hn : NodV own h w S v n) (hb : Below w.heap.size w w') : NodV own h w' S v n := by
 obtain ⟨a, k, h1, h2, h3⟩ := hn
 exact ⟨a, k, h1, h2.below (rdOf_stable _) hb, h3.below (rdNod_stable _ _) hb⟩
structure NodAt (h : Nat) (w : World) (S : Nat → Prop) (b o : Nat) (n : Nod) (aa : Option Addr) (ac : Nat) (ka : Option Addr) (kc : Nat) : Prop where
 lt : b < w.heap.size
 tag : w.cell? ⟨b, o, none⟩ = some (.int .i64 n.tag)
 attrs : w.cell? ⟨b, o + 1, none⟩ = some (.slice aa n.attrs.length ac)
 text : w.cell? ⟨b, o + 2, none⟩ = some (.string ⟨n.text.toArray⟩)
 kids : w.cell? ⟨b, o + 3, none⟩ = some (.slice ka n.kids.length kc)
 attrsR : AttsR false w S (.slice aa n.attrs.length ac) n.attrs
 kidsR : NodsR false h w S (.slice ka n.kids.length kc) n.kids
theorem NodAt.below {h : Nat} {w w' : World} {S : Nat → Prop} {b o : Nat} {n : Nod} {aa ka : Option Addr} {ac kc : Nat} (hn : NodAt h w S b o n aa ac ka kc) (hb : Below w.heap.size w w') : NodAt h w' S b o n aa ac ka kc :=
 ⟨Nat.lt_of_lt_of_le hn.lt hb.size, (hb.cell hn.lt).trans hn.tag, (hb.cell hn.lt).trans hn.attrs, (hb.cell hn.lt).trans hn.text, (hb.cell hn.lt).trans hn.kids, hn.attrsR.below (rdOf_stable _) hb, hn.kidsR.below (rdNod_stable _ _) hb⟩
theorem nods_shape {h : Nat} {w : World} {S : Nat → Prop} {v : Value} {d : List Nod} (hd : NodsR false h w S v d) :
  ∃ a c, v = .slice a d.length c ∧ d.length ≤ c ∧ c ≤ maxLen ∧ ∀ i l, d[i]? = some l → ∃ b o aa ac ka kc h', h = h' + 1 ∧ a = some ⟨b, o, none⟩ ∧ NodAt h' w S b (o + i * 4) l aa ac ka kc := by
 obtain ⟨a, c, rfl, hc, hm, hx⟩ := SliceR.shape hd
 refine ⟨a, c, rfl, hc, hm, fun i l hl => ?_⟩
 obtain ⟨b, o, vs, rfl, hz, _, _, hR, he⟩ := hx i l hl
 match h, hR with
 | h' + 1, ⟨x, y, e, h1, h2⟩ =>
  subst e
  obtain ⟨aa, ac, rfl⟩ := h1.slice
  obtain ⟨ka, kc, rfl⟩ := h2.slice
  exact ⟨b, o, aa, ac, ka, kc, h', rfl, rfl, hz, he 0 _ rfl, he 1 _ rfl, he 2 _ rfl, he 3 _ rfl, h1, h2⟩
theorem atts_shape {w : World} {S : Nat → Prop} {v : Value} {d : List Att} (h : AttsR false w S v d) :
  ∃ a c, v = .slice a d.length c ∧ d.length ≤ c ∧ c ≤ maxLen ∧ ∀ i l, d[i]? = some l → ∃ b o, a = some ⟨b, o, none⟩ ∧ b < w.heap.size ∧ w.cell? ⟨b, o + i * 2, none⟩ = some (.string ⟨l.name.toArray⟩) ∧ w.cell? ⟨b, o + i * 2 + 1, none⟩ = some (.string ⟨l.value.toArray⟩) := by
 obtain ⟨a, c, rfl, hc, hm, hx⟩ := h.shape
 refine ⟨a, c, rfl, hc, hm, fun i l hl => ?_⟩
 obtain ⟨b, o, vs, rfl, hz, _, _, e, he⟩ := hx i l hl
 have e : vs = encAtt l := e
 subst e
 exact ⟨b, o, rfl, hz, he 0 _ rfl, he 1 _ rfl⟩
end Go.Proofs.Qw
namespace Go.Proofs.Qw
open Go.RowKit Go.Proofs.YtjpgffihafknlaaGreatDoor
structure EltX {α : Type} (k : Nat) (R : Rd α) : Prop where
 pos : 0 < k
 len : ∀ w S vs x, R w S vs x → vs.length = k
 ones : ∀ w S vs x, R w S vs x → ∀ u ∈ vs, u.oneCell' = true
 st : Stable R
def RwX {α : Type} (t : TypeId) (k : Nat) (R : Rd α) (w : World) (n : Nat) (v : Value) (xs : List α) : Prop :=
 ∃ a c, v = .slice a xs.length c ∧ xs.length ≤ c ∧ c ≤ maxLen ∧ ((xs = [] ∧ c = 0) ∨ ∃ b o, a = some ⟨b, o, none⟩ ∧ n ≤ b ∧ b < w.heap.size ∧ (∃ cs, w.heap[b]? = some (.cells cs t) ∧ o + c * k ≤ cs.size) ∧
  ∀ i x, xs[i]? = some x → ∃ vs : List Value, vs.length = k ∧ R w (fun b' => n ≤ b' ∧ b' ≠ b) vs x ∧ ∀ j u, vs[j]? = some u → w.cell? ⟨b, o + i * k + j, none⟩ = some u)
def rowBlk : Value → Option Nat
 | .slice (some p) _ (_ + 1) => some p.block
 | _ => none
def NewsX {α : Type} (k : Nat) (R : Rd α) (w : World) (n : Nat) (v : Value) (news : List Value) (ys : List α) : Prop := NewsR k R w (fun b' => n ≤ b' ∧ rowBlk v ≠ some b') news ys
theorem RwX.nil {α : Type} (t : TypeId) (k : Nat) (R : Rd α) (w : World) (n : Nat) : RwX t k R w n (.slice none 0 0) [] := ⟨none, 0, rfl, Nat.le_refl _, by decide, .inl ⟨rfl, rfl⟩⟩
theorem RwX.row {α : Type} {t : TypeId} {k : Nat} {R : Rd α} (hR : Stable R) {w : World} {n : Nat} {v : Value} {xs : List α} (h : RwX t k R w n v xs) : SliceR t k R true w (fun b => n ≤ b) v xs := by
 obtain ⟨a, c, h1, h2, h3, ⟨h, h0⟩ | ⟨b, o, rfl, hb, hz, hf, he⟩⟩ := h
 ·exact ⟨a, c, h1, h2, h3, .inl ⟨h, fun _ => h0⟩⟩
 ·exact ⟨_, c, h1, h2, h3, .inr ⟨b, o, rfl, hb, hz, fun _ => hf, fun i x hx => by
   obtain ⟨vs, g1, g2, g3⟩ := he i x hx
   exact ⟨vs, g1, hR.go _ _ _ _ _ _ g2 (Keeps.refl _ _) (fun _ h _ => h.1), g3⟩⟩⟩
theorem RwX.below {α : Type} {t : TypeId} {k : Nat} {R : Rd α} (hR : Stable R) {w w' : World} {n : Nat} {v : Value} {xs : List α} (h : RwX t k R w n v xs) (hk : Keeps (fun b => n ≤ b) w w') : RwX t k R w' n v xs := by
 obtain ⟨a, c, h1, h2, h3, h | ⟨b, o, rfl, hb, hz, ⟨cs, f1, f2⟩, he⟩⟩ := h
 ·exact ⟨a, c, h1, h2, h3, .inl h⟩
 ·refine ⟨_, c, h1, h2, h3, .inr ⟨b, o, rfl, hb, Nat.lt_of_lt_of_le hz hk.size, ⟨cs, (hk.block b hb hz).trans f1, f2⟩, fun i x hx => ?_⟩⟩
  obtain ⟨vs, g1, g2, g3⟩ := he i x hx
  exact ⟨vs, g1, hR.go _ _ _ _ _ _ g2 ⟨hk.size, fun b' hb' hz' => hk.block b' hb'.1 hz'⟩ (fun _ h _ => h), fun j u hu => by rw [World.cell?_of_block (w := w) (hk.block b hb hz)]; exact g3 j u hu⟩
theorem RwX.slice {α : Type} {t : TypeId} {k : Nat} {R : Rd α} {w : World} {n : Nat} {v : Value} {xs : List α} (h : RwX t k R w n v xs) : ∃ a c, v = .slice a xs.length c := by
 obtain ⟨a, c, rfl, _⟩ := h
 exact ⟨a, c, rfl⟩
theorem RwX.apart {α : Type} {t : TypeId} {k : Nat} {R : Rd α} {w : World} {n : Nat} {v : Value} {xs : List α} (h : RwX t k R w n v xs) : ∀ b, rowBlk v = some b → b < w.heap.size := by
 obtain ⟨a, c, rfl, _, _, ⟨_, h0⟩ | ⟨b, o, rfl, hb, hz, _⟩⟩ := h
 ·intro b hb
  subst h0
  cases a <;> cases hb
 ·intro b' hb'
  cases c with
  | zero => cases hb'
  | succ c => cases hb'; exact hz
theorem news_apart {α : Type} {t : TypeId} {k : Nat} {R R' : Rd α} (hR : Stable R) {w0 w : World} {n : Nat} {v : Value} {xs ys : List α} {news : List Value} (h : RwX t k R' w0 n v xs) (hn : n ≤ w0.heap.size) (hnew : NewsR k R w (fun b => w0.heap.size ≤ b) news ys) : NewsX k R w n v news ys := fun i y hy => by
 obtain ⟨vs, h1, h2, h3⟩ := hnew i y hy
 refine ⟨vs, h1, hR.go _ _ _ _ _ _ h2 (Keeps.refl _ _) (fun b hb _ => ⟨Nat.le_trans hn hb, fun e => ?_⟩), h3⟩
 have := h.apart b e
 omega
theorem append_X {P : Program} {st tx ty t : TypeId} {k : Nat} (hT : RowT P st t k) {α : Type} {R : Rd α} (hE : EltX k R) {w : World} {n : Nat} {v x : Value} {xs ys : List α} {news : List Value}
  (h1 : RwX t k R w n v xs) (hn : n ≤ w.heap.size) (hs : Src P k tx x ys.length news w) (hnew : NewsX k R w n v news ys) (hlen : xs.length + ys.length ≤ 100000000) :
  ∃ v' w', (Builtin.append_ #[st, tx] ty #[v, x]).run P w = .ok v' w' ∧ RwX t k R w' n v' (xs ++ ys) ∧ Below n w w' ∧ w.grownBy w' v.ownBlock ∧ (v'.ownBlock = v.ownBlock ∨ v'.ownBlock = some w.heap.size) := by
 obtain ⟨i, z, hi, hz, rfl, hby, hzs⟩ := hT.info
 obtain ⟨a, c, rfl, hc, hcm, hx⟩ := h1
 have hbytes : (xs.length + ys.length) * i.bytes ≤ 140737488355328 := Nat.le_trans (Nat.mul_le_mul hlen hby) (by decide)
 by_cases hroom : xs.length + ys.length ≤ c
 ·rcases hx with ⟨rfl, h0⟩ | ⟨b, o, rfl, hb, hzb, hf, he⟩
  ·have hy : ys = [] := List.length_eq_zero_iff.1 (by simp at hroom; omega)
   subst hy
   have hnl : news = [] := List.length_eq_zero_iff.1 (by simpa using hs.newsLen)
   refine ⟨.slice a 0 c, w, ?_, ⟨a, c, rfl, Nat.zero_le _, hcm, .inl ⟨rfl, h0⟩⟩, Below.refl _ _, ⟨rfl, rfl, rfl, Nat.le_refl _, fun _ _ _ => rfl⟩, .inl rfl⟩
   have hcl : (Builtin.firstCells i.size 0 x).run P w = .ok #[] w := by
    have := hs.cells
    rw [hnl] at this
    exact this
   rcases hs.kind with ⟨e', hk⟩ | hk <;> cases a <;>
    simp [Builtin.append_, run_underlying hT.under, run_underlying hk, sizeOf, typeInfo, hi, hs.len, h0, hcl, storeCells, Result.andThen]
  ·obtain ⟨cs, g1, g2⟩ := hf
   have hfit : o + xs.length * i.size + news.length ≤ cs.size := by
    rw [hs.newsLen]
    have : xs.length * i.size + ys.length * i.size ≤ c * i.size := by rw [← Nat.add_mul]; exact Nat.mul_le_mul_right _ hroom
    omega
   have hrun := run_append_room_src (P := P) w st tx ty t i hT.under hi b o xs.length c x ys.length news hs hroom
    (fun j hj => by rw [cell_of_heap g1, Array.getElem?_eq_getElem (by omega)]; rfl) (fun j hj => by rw [World.frozen?, g1]; simp)
   obtain ⟨cs', k1, k2, k3, k4⟩ := setCells_heap news w b (o + xs.length * i.size) cs t (0, 0) g1 (by omega)
   have hoth := setCells_other b news (o + xs.length * i.size) w
   have hsz := setCells_size b news (o + xs.length * i.size) w
   have hrest := setCells_rest b news (o + xs.length * i.size) w
   have hkeepR : ∀ vs x, R w (fun b' => n ≤ b' ∧ b' ≠ b) vs x → R (w.setCells b (o + xs.length * i.size) news) (fun b' => n ≤ b' ∧ b' ≠ b) vs x := fun vs x h =>
    hE.st.go _ _ _ _ _ _ h ⟨Nat.le_of_eq hsz.symm, fun b' hb' _ => hoth b' hb'.2⟩ (fun _ h _ => h)
   refine ⟨_, _, hrun, ⟨_, c, by rw [List.length_append], by rw [List.length_append]; exact hroom, hcm, .inr ⟨b, o, rfl, hb, by rw [hsz]; exact hzb, ⟨cs', k1, by omega⟩, fun q y hq => ?_⟩⟩, setCells_below hb, ⟨hrest.1, hrest.2.1, hrest.2.2, Nat.le_of_eq hsz.symm, fun d _ hd => hoth d (fun e => hd (by rw [e]; rfl))⟩, .inl rfl⟩
   by_cases hqx : q < xs.length
   ·rw [List.getElem?_append_left hqx] at hq
    obtain ⟨vs, r1, r2, r3⟩ := he q y hq
    refine ⟨vs, r1, hkeepR _ _ r2, fun j u hu => ?_⟩
    have hj := (List.getElem?_eq_some_iff.1 hu).1
    have hle : q * i.size + i.size ≤ xs.length * i.size := by rw [← Nat.succ_mul]; exact Nat.mul_le_mul_right _ hqx
    rw [cell_of_heap k1, k3 _ (.inl (by omega)), ← cell_of_heap g1]
    exact r3 j u hu
   ·rw [List.getElem?_append_right (by omega)] at hq
    obtain ⟨vs, r1, r2, r3⟩ := hnew _ y hq
    have hc0 : c ≠ 0 := fun e => by
     have := (List.getElem?_eq_some_iff.1 hq).1
     omega
    have hblk : rowBlk (.slice (some ⟨b, o, none⟩) xs.length c) = some b := by
     cases c with
     | zero => exact absurd rfl hc0
     | succ c => rfl
    have r2 := hE.st.go _ _ _ (fun b' => n ≤ b' ∧ b' ≠ b) _ _ r2 (Keeps.refl _ _) (fun b' h _ => ⟨h.1, fun e => h.2 (by rw [hblk, e])⟩)
    refine ⟨vs, r1, hkeepR _ _ r2, fun j u hu => ?_⟩
    have := k4 _ u (r3 j u hu)
    rw [cell_of_heap k1, show o + q * i.size + j = o + xs.length * i.size + ((q - xs.length) * i.size + j) by
     have : q * i.size = xs.length * i.size + (q - xs.length) * i.size := by rw [← Nat.add_mul]; congr 1; omega
     omega]
    exact this
 ·-- it grows
  obtain ⟨olds, ho1, ho2⟩ : ∃ olds : List Value, (Builtin.firstCells i.size xs.length (.slice a xs.length c)).run P w.drew = .ok olds.toArray w.drew ∧ NewsR i.size R w (fun b => n ≤ b) olds xs ∧ olds.length = xs.length * i.size := by
   obtain ⟨news', q1, q2⟩ := SliceR.src (P := P) (st := st) hT hE.pos hE.ones (own := true) (w := w) (S := fun b => n ≤ b) (v := .slice a xs.length c) (xs := xs) (RwX.row hE.st ⟨a, c, rfl, hc, hcm, hx⟩)
   exact ⟨news', q1.cellsD, q2, q1.newsLen⟩
  have hrun := run_append_grow_src (P := P) w st tx ty t i z hT.under hi hz a xs.length c olds ho1 x ys.length news hs (by omega) (by omega) (growslice_fits (by omega) hbytes)
  have hge := grownCap_ge w (xs.length + ys.length) c t
  have hcm' := grownCap_le_maxLen w (xs.length + ys.length) c t (by unfold maxLen; omega)
  generalize hG : grownCap w (xs.length + ys.length) c t = G at *
  refine ⟨_, _, hrun, ⟨_, G, by rw [List.length_append], by rw [List.length_append]; exact hge, hcm', .inr ⟨w.heap.size, 0, rfl, hn, by simp, ⟨_, World.alloc_heap_new _ _, ?_⟩, fun q y hq => ?_⟩⟩, ((Below.refl _ _).drew).alloc hn _, ⟨rfl, rfl, rfl, by simp, fun d hd _ => Below.heap_alloc _ _ _ hd⟩, .inr rfl⟩
  ·simp only [Array.size_append, List.size_toArray, List.length_append, size_zeroCells, hzs, ho2.2, hs.newsLen]
   have h9 : (xs.length + ys.length) * i.size + (G - (xs.length + ys.length)) * i.size = G * i.size := by rw [← Nat.add_mul]; congr 1; omega
   rw [Nat.add_mul] at h9
   omega
  ·have hK : ∀ S : Nat → Prop, Keeps S w (w.drew.alloc (.cells ((olds ++ news).toArray ++ Builtin.zeroCells z.cells (G - (xs.length + ys.length))) t)) :=
    fun S => Keeps.all (((Below.refl _ _).drew).alloc (Nat.le_refl _) _)
   have hcell : ∀ j u, (olds ++ news)[j]? = some u → (w.drew.alloc (.cells ((olds ++ news).toArray ++ Builtin.zeroCells z.cells (G - (xs.length + ys.length))) t)).cell? ⟨w.heap.size, j, none⟩ = some u := by
    intro j u hu
    have hj := (List.getElem?_eq_some_iff.1 hu).1
    rw [cell_of_heap (w := w.drew.alloc _) (B := w.heap.size) (World.alloc_heap_new w.drew _), Array.getElem?_append_left (by simpa using hj)]
    simpa using hu
   by_cases hqx : q < xs.length
   ·rw [List.getElem?_append_left hqx] at hq
    obtain ⟨vs, r1, r2, r3⟩ := ho2.1 q y hq
    refine ⟨vs, r1, hE.st.go _ _ _ _ _ _ r2 (hK _) (fun _ h hz => ⟨h, Nat.ne_of_lt hz⟩), fun j u hu => ?_⟩
    have h3 := r3 j u hu
    rw [Nat.zero_add]
    exact hcell _ u (by rw [List.getElem?_append_left (List.getElem?_eq_some_iff.1 h3).1]; exact h3)
   ·rw [List.getElem?_append_right (by omega)] at hq
    obtain ⟨vs, r1, r2, r3⟩ := hnew _ y hq
    refine ⟨vs, r1, hE.st.go _ _ _ _ _ _ r2 (hK _) (fun _ h hz => ⟨h.1, Nat.ne_of_lt hz⟩), fun j u hu => ?_⟩
    have h3 := r3 j u hu
    rw [Nat.zero_add]
    refine hcell _ u ?_
    rw [show q * i.size + j = olds.length + ((q - xs.length) * i.size + j) by
     rw [ho2.2]
     have : q * i.size = xs.length * i.size + (q - xs.length) * i.size := by rw [← Nat.add_mul]; congr 1; omega
     omega, List.getElem?_append_right (by omega)]
    simpa using h3
theorem wpList_append_X {P : Program} (w : World) {ops : Array Oper} {rest : List Oper} {o : Oper} {a : Act} {Q : Exit → Act → World → Prop} (hgd : o.guard = none) (s x : Operand) (st tx : TypeId)
  (ho : o.op = .call { callee := .builtin .append, args := #[s, x], argTypes := #[st, tx] }) {t : TypeId} {k : Nat} (hT : RowT P st t k) {α : Type} {R : Rd α} (hE : EltX k R) (n : Nat) (v y : Value) {xs ys : List α} {news : List Value} (hs : a.eval s = v) (hx : a.eval x = y)
  (h1 : RwX t k R w n v xs) (hn : n ≤ w.heap.size) (hsrc : Src P k tx y ys.length news w) (hnew : NewsX k R w n v news ys) (hlen : xs.length + ys.length ≤ 100000000)
  (h : ∀ v' w', RwX t k R w' n v' (xs ++ ys) → Below n w w' → w.grownBy w' v.ownBlock → (v'.ownBlock = v.ownBlock ∨ v'.ownBlock = some w.heap.size) → wpList P ops Q rest (a.put o.dst v') w') :
  wpList P ops Q (o :: rest) a w := by
 refine wpList_plain hgd fun K hK => ?_
 obtain ⟨v', w', hr, h2, h3, h4, h5⟩ := append_X (P := P) (ty := o.type) hT hE h1 hn hsrc hnew hlen
 unfold Oper.wp execOp
 simp only [ho, resolve, invoke, builtin, Sem.run_bind, Sem.run_pure, Result.andThen_ok, List.map_toArray, List.map_cons, List.map_nil, hs, hx, hr]
 exact hK _ _ (h v' w' h2 h3 h4 h5)
theorem step_append_X {P : Program} {w : World} {ops : Array Oper} {o : Oper} {a : Act} {K : Act → World → Prop} {Q : Exit → Act → World → Prop} {E : Prop} (hgd : o.guard = none) (s x : Operand) (st tx : TypeId)
  (ho : o.op = .call { callee := .builtin .append, args := #[s, x], argTypes := #[st, tx] }) {t : TypeId} {k : Nat} (hT : RowT P st t k) {α : Type} {R : Rd α} (hE : EltX k R) (n : Nat) (v y : Value) {xs ys : List α} {news : List Value} (hs : a.eval s = v) (hx : a.eval x = y)
  (h1 : RwX t k R w n v xs) (hn : n ≤ w.heap.size) (hsrc : Src P k tx y ys.length news w) (hnew : NewsX k R w n v news ys) (hlen : xs.length + ys.length ≤ 100000000)
  (h : ∀ v' w', RwX t k R w' n v' (xs ++ ys) → Below n w w' → w.grownBy w' v.ownBlock → (v'.ownBlock = v.ownBlock ∨ v'.ownBlock = some w.heap.size) → K (a.put o.dst v') w') :
  if Region.wanted o (yielded ops a.tmps) = true then Oper.wp P o a w K Q else E := by
 have hw : Region.wanted o (yielded ops a.tmps) = true := by simp [Region.wanted, hgd]
 rw [if_pos hw]
 obtain ⟨v', w', hr, h2, h3, h4, h5⟩ := append_X (P := P) (ty := o.type) hT hE h1 hn hsrc hnew hlen
 unfold Oper.wp execOp
 simp only [ho, resolve, invoke, builtin, Sem.run_bind, Sem.run_pure, Result.andThen_ok, List.map_toArray, List.map_cons, List.map_nil, hs, hx, hr]
 exact h v' w' h2 h3 h4 h5
end Go.Proofs.Qw
namespace Go.Proofs.Qw
open Go.RowKit
mutual
def FitN : Nod → Prop | .mk _ ats _ ks => ats.length ≤ 1000000 ∧ ks.length ≤ 1000000 ∧ FitK ks
def FitK : List Nod → Prop | [] => True | k :: ks => FitN k ∧ FitK ks
end
theorem fit_mem : ∀ {l : List Nod} {n : Nod}, FitK l → n ∈ l → FitN n
 | k :: ks, n, h, hn => by
  rw [FitK] at h
  rcases List.mem_cons.1 hn with rfl | hn
  ·exact h.1
  ·exact fit_mem h.2 hn
theorem fit_parts {n : Nod} (h : FitN n) : n.attrs.length ≤ 1000000 ∧ n.kids.length ≤ 1000000 ∧ FitK n.kids := by
 obtain ⟨t, a, x, k⟩ := n
 rw [FitN] at h
 exact h
end Go.Proofs.Qw
namespace Go.Proofs.YtjpgffihafknlaaGreatDoor
open Go.RowKit
open Go.Proofs.Qw
theorem rowAtt : RowT Tryz.prog 22 105 2 := RowT.mk' (y := 32) Tryz.underlying22 (by kernel_rfl) (by decide) (z := .agg #[.string ⟨#[]⟩, .string ⟨#[]⟩]) (by rfl)
theorem rowNod : RowT Tryz.prog 23 25 4 := RowT.mk' (y := 72) Tryz.underlying23 (by kernel_rfl) (by decide) (z := .agg #[.int .i64 0, .slice none 0 0, .string ⟨#[]⟩, .slice none 0 0]) (by rfl)
theorem eltAtt : Elt 105 2 (rdOf encAtt) := elt_of _ (by decide) (fun _ => rfl) (fun x u hu => by simp [encAtt] at hu; rcases hu with rfl | rfl <;> rfl)
theorem eltNod (h : Nat) : EltX 4 (rdNod true h) :=
 ⟨by decide, fun _ _ _ _ hn => by
  match h, hn with
  | h + 1, ⟨_, _, e, _⟩ => rw [e]; rfl, fun _ _ _ _ hn u hu => by
  match h, hn with
  | h + 1, ⟨a, b, e, h2, h3⟩ =>
   obtain ⟨_, _, rfl⟩ := h2.slice
   obtain ⟨_, _, rfl⟩ := h3.slice
   subst e
   simp at hu
   rcases hu with rfl | rfl | rfl | rfl <;> rfl, rdNod_stable true h⟩
theorem srcAtt {own : Bool} {w : World} {S : Nat → Prop} {v : Value} {xs : List Att} (h : SliceR 105 2 (rdOf encAtt) own w S v xs) :
  ∃ news : List Value, Src Tryz.prog 2 22 v xs.length news w ∧ NewsR 2 (rdOf encAtt) w S news xs := SliceR.src rowAtt eltAtt.pos eltAtt.ones h
set_option maxRecDepth 100000 in
set_option maxHeartbeats 1000000 in
theorem cloneAtt_any (v : Value) (d : List Att) (own : Bool) (w w0 : World) (S : Nat → Prop) (h : SliceR 105 2 (rdOf encAtt) own w0 S v d) (h0 : Below w0.heap.size w0 w) (hs : d.length ≤ 1000000) :
  Calls Tryz.prog 76 #[v] w fun e w' => ∃ v', e = .returned v' ∧ SliceR 105 2 (rdOf encAtt) true w' (fun b => w.heap.size ≤ b) v' d ∧ Below w.heap.size w w' := by
 have hw : SliceR 105 2 (rdOf encAtt) own (w.alloc (.cells #[] 105)) S v d := SliceR.below (rdOf_stable _) h (below_from h0 ((Below.refl _ _).alloc (Nat.le_refl _) _))
 obtain ⟨news, H1, H2⟩ := srcAtt hw
 have HS := Lib.hid H1
 have HN := Lib.hid H2
 clear H1 H2
 obtain ⟨a, c, rfl, hc, hm, hx⟩ := hw
 cases a with
 | none =>
  have hd : d = [] := by
   rcases hx with hx | ⟨_, _, e, _⟩
   ·exact hx.1
   ·cases e
  have HD := Lib.hid hd
  have hq := Lib.run_eql_slice_nil (P := Tryz.prog) w 22 105 none d.length c 0 0 Tryz.underlying22
  clear hx h hd
  generalize d.length = n at *
  go_enter Tryz.func76, Tryz.ntmps76
  go_wp2_with fail
  go_ret
  rw [HD.out]
  exact ⟨_, rfl, SliceR.nil _ _ _ _ _ _, Below.refl _ _⟩
 | some a =>
  have hq := Lib.run_eql_slice_nil (P := Tryz.prog) w 22 105 (some a) d.length c 0 0 Tryz.underlying22
  clear hx h
  generalize hn : d.length = n at *
  have HL := Lib.hid hn
  clear hn
  go_enter Tryz.func76, Tryz.ntmps76
  go_wp2_with (at_builtin; refine wpList_append_R _ rfl _ _ 22 22 rfl rowAtt eltAtt w.heap.size _ _ (xs := []) (ys := d) (news := news) rfl rfl (SliceR.empty _ _ _ _ _ _ _) (by simp) (HL.out ▸ HS.out) HN.out (by have := HL.out; simp; omega) ?_; intro v' w1 hR hB _ _; have HR := Lib.hid hR; have HB := Lib.hid hB; clear hR hB)
  go_ret
  exact ⟨_, rfl, HR.out, ((Below.refl _ _).alloc (Nat.le_refl _) _).trans HB.out⟩
attribute [local go_sem ↓] Go.wp_at_zero Go.wp_at_succ
abbrev nodV (n : Nod) (a k : Value) : Value := .agg #[.int .i64 n.tag, a, .string ⟨n.text.toArray⟩, k]
theorem results_node {fn : Func} {p : Tmp} (h : fn.results = #[.cell p 25]) (tmps : Array Value) (w : World) (B : Nat) (x y z u : Value) (hp : tmps.getD p undef = .pointer (some ⟨B, 0, none⟩)) (hg : w.heap[B]? = some (.cells #[x, y, z, u] 25)) :
  (results fn tmps).run Tryz.prog w = .ok (.agg #[x, y, z, u]) w :=
 results_cell_row h tmps w B _ _ _ _ hp hg Tryz.underlying25 rfl (by kernel_rfl)
def OwnsAt (h : Nat) : Prop := ∀ (v : Value) (l : List Nod) (own : Bool) (w w0 : World) (S : Nat → Prop), NodsR own h w0 S v l → Below w0.heap.size w0 w → l.length ≤ 1000000 → FitK l →
  Calls Tryz.prog 77 #[v] w fun e w' => ∃ v', e = .returned v' ∧ NodsR true h w' (fun b => w.heap.size ≤ b) v' l ∧ Below w.heap.size w w'
theorem two_nodes (w : World) (x1 x2 x3 x4 y1 y2 y3 y4 : Value) : ∃ W1, (w.alloc (.cells #[x1, x2, x3, x4] 25)).alloc (.cells #[y1, y2, y3, y4] 25) = W1 ∧ Below w.heap.size w W1 ∧ w.heap.size + 2 = W1.heap.size ∧
  W1.heap[w.heap.size]? = some (.cells #[x1, x2, x3, x4] 25) ∧ W1.heap[w.heap.size + 1]? = some (.cells #[y1, y2, y3, y4] 25) :=
 ⟨_, rfl, ((Below.refl _ _).alloc (Nat.le_refl _) _).alloc (by simp) _, by simp, heap_old _ _ (heap_new _ _ rfl), heap_new _ _ (by simp)⟩
set_option maxRecDepth 100000 in
set_option maxHeartbeats 2000000 in
theorem nodOwn_of (h : Nat) (Hk : OwnsAt h) (n : Nod) (a k : Value) (o1 o2 : Bool) (w w0 : World) (S : Nat → Prop) (hA : AttsR o1 w0 S a n.attrs) (hK : NodsR o2 h w0 S k n.kids) (h0 : Below w0.heap.size w0 w) (hs : FitN n) :
  Calls Tryz.prog 47 #[nodV n a k] w fun e w' => ∃ a' k', e = .returned (nodV n a' k') ∧ AttsR true w' (fun b => w.heap.size ≤ b) a' n.attrs ∧ NodsR true h w' (fun b => w.heap.size ≤ b) k' n.kids ∧ Below w.heap.size w w' := by
 obtain ⟨f1, f2, f3⟩ := fit_parts hs
 have HC1 : Hid (∀ W, Below w0.heap.size w0 W → Calls Tryz.prog 76 #[a] W fun e w' => ∃ v', e = .returned v' ∧ AttsR true w' (fun b => W.heap.size ≤ b) v' n.attrs ∧ Below W.heap.size W w') := Lib.hid fun W hW => cloneAtt_any a n.attrs o1 W w0 S hA hW f1
 have HC2 : Hid (∀ W, Below w0.heap.size w0 W → Calls Tryz.prog 77 #[k] W fun e w' => ∃ v', e = .returned v' ∧ NodsR true h w' (fun b => W.heap.size ≤ b) v' n.kids ∧ Below W.heap.size W w') := Lib.hid fun W hW => Hk k n.kids o2 W w0 S hK hW f2 f3
 obtain ⟨la, lc, rfl⟩ := hA.slice
 obtain ⟨ca, cc, rfl⟩ := hK.slice
 clear hA hK f1 f2 f3 hs
 generalize n.attrs.length = n1 at *
 generalize n.kids.length = m at *
 unfold nodV
 obtain ⟨W1, hW1, hB, hz, hA0, hA1⟩ := two_nodes w (.int .i64 n.tag) (.slice la n1 lc) (.string ⟨n.text.toArray⟩) (.slice ca m cc) (.int .i64 0) (.slice none 0 0) (.string ⟨#[]⟩) (.slice none 0 0)
 have hW := below_from h0 hB
 have z0 : w.heap.size < W1.heap.size := by omega
 have z1 : w.heap.size + 1 < W1.heap.size := by omega
 have HZ := Lib.hid hz
 clear hz
 obtain ⟨p0, g0⟩ := blk hA0
 obtain ⟨p1, g1⟩ := blk hA1
 go_enter Tryz.func47, Tryz.ntmps47
 go_wp2_with fail
 go_region_with
  (first | (go_at_call 76; refine (HC1.out _ (by first | exact hW | exact hW.drew)).mono ?_; rintro e w2 ⟨v1, rfl, hv1, hb1⟩; obtain ⟨a1, c1, rfl⟩ := hv1.slice; have hA3 := heap_below hb1 hA1; have hA2 := heap_below hb1 hA0; obtain ⟨p2, g2⟩ := blk hA2; obtain ⟨p3, g3⟩ := blk hA3; have hx1 := below_from (by first | exact hW | exact hW.drew) hb1) | (go_at_call 77; refine (HC2.out _ hx1).mono ?_; rintro e w3 ⟨v2, rfl, hv2, hb2⟩; obtain ⟨a2, c2, rfl⟩ := hv2.slice; have hA4 := heap_below hb2 hA2; have hA5 := heap_below hb2 hA3; obtain ⟨p4, g4⟩ := blk hA4; obtain ⟨p5, g5⟩ := blk hA5))
 all_goals
  go_wp2_with fail
 all_goals
  refine bodyPost_ret (results_node rfl _ _ (w.heap.size + 1) (.int .i64 n.tag) (.slice a1 n.attrs.length c1) (.string ⟨n.text.toArray⟩) (.slice a2 n.kids.length c2) rfl (by simp [heap_set, putIn, hA5])) rfl ?_
  have s1 := hb1.size
  have s2 := hb2.size
  have s0 := hB.size
  simp at s1
  refine ⟨_, _, rfl, hv1.stable (rdOf_stable _) ((((((((Keeps.refl _ _).on hb2).set (by simp; omega) _).set (by simp; omega) _).set (by simp; omega) _).set (by simp; omega) _).set (by simp; omega) _).set (by simp; omega) _) (fun b h _ => ?_), hv2.stable (rdNod_stable _ _) (((((((Keeps.refl _ _).set (by simp; omega) _).set (by simp; omega) _).set (by simp; omega) _).set (by simp; omega) _).set (by simp; omega) _).set (by simp; omega) _) (fun b h _ => ?_), ?_⟩
  ·(try simp at h); omega
  ·(try simp at h); omega
  ·have hb1' : Below W1.heap.size W1 w2 := (Below.refl _ _).drew.trans hb1
   have hbb := (hB.trans (hb1'.mono s0)).trans (hb2.mono (by omega))
   exact (((((hbb.setCell (by simp) _).setCell (by simp) _).setCell (by simp) _).setCell (by simp) _).setCell (by simp) _).setCell (by simp) _
theorem oneV_node (n : Nod) (a1 a2 : Option Addr) (n1 c1 n2 c2 : Nat) : ∀ u ∈ [Value.int .i64 n.tag, .slice a1 n1 c1, .string ⟨n.text.toArray⟩, .slice a2 n2 c2], u.oneCell' = true := by
 intro u hu
 simp at hu
 rcases hu with rfl | rfl | rfl | rfl <;> rfl
set_option maxRecDepth 100000 in
set_option maxHeartbeats 2000000 in
theorem owns_step (h : Nat) (ih : ∀ h', h = h' + 1 → OwnsAt h') : OwnsAt h := by
 intro v d own w w0 S hv h0 hn hfit
 obtain ⟨a, c, rfl, hc, hm, hx⟩ := nods_shape (hv.read fun _ _ h => rdNod_read h)
 have HX := Lib.hid hx
 have HF := Lib.hid hfit
 have HI := Lib.hid ih
 clear hx hv hfit ih
 unfold maxLen at hm
 go_enter Tryz.func77, Tryz.ntmps77
 go_wp2_with fail
 go_loopw [3, 8] (fun out i wr => ∃ k : Nat, k ≤ d.length ∧ i = .int .i64 k ∧ RwX 25 4 (rdNod true h) wr w.heap.size out (d.take k) ∧ Below w.heap.size w wr) (fun _ i _ => d.length - (intOf i).toNat)
 case atStart => exact ⟨0, Nat.zero_le _, rfl, RwX.nil _ _ _ _ _, Below.refl _ _⟩
 case round =>
  obtain ⟨k, hk, rfl, hO, hb⟩ := hrel
  by_cases hlt : k < d.length
  ·obtain ⟨n, hl, hd⟩ := getOf d k hlt
   obtain ⟨b, o, aa, ac, ka, kc, h', rfl, rfl, hA⟩ := HX.out k n hl
   have hfl := fit_mem HF.out (List.mem_of_getElem? hl)
   have HT := Lib.hid (take_some hl)
   have HH := Lib.hid (And.intro hA.attrsR hA.kidsR)
   obtain ⟨_, c0, c1, c2, c3, _, _⟩ := hA.below (below_from h0 hb)
   have HW : Hid (∀ W, Below w0.heap.size w0 W → Calls Tryz.prog 47 #[nodV n (.slice aa n.attrs.length ac) (.slice ka n.kids.length kc)] W fun e w' => ∃ a' k', e = .returned (nodV n a' k') ∧ AttsR true w' (fun b => W.heap.size ≤ b) a' n.attrs ∧ NodsR true h' w' (fun b => W.heap.size ≤ b) k' n.kids ∧ Below W.heap.size W w') :=
    Lib.hid fun W hW => nodOwn_of h' (HI.out h' rfl) n _ _ false false W w0 S HH.out.1 HH.out.2 hW hfl
   have HO := Lib.hid hO
   have hbw := below_from h0 hb
   have hbs := hb.size
   have htl : (d.take k).length + 1 ≤ 100000000 := by rw [List.length_take]; omega
   clear hA hd hl hO hfl HH
   go_wp2_with (first
    | (go_at_call 47; refine (HW.out _ (hbw.alloc (by have := hbw.size; simp; omega) _)).mono ?_; rintro e w2 ⟨a', b', rfl, ha', hb', hb2⟩; obtain ⟨a1, c1, rfl⟩ := ha'.slice; obtain ⟨a2, c2, rfl⟩ := hb'.slice; have HA1 := Lib.hid ha'; have HA2 := Lib.hid hb'; have HB2 := Lib.hid hb2; clear ha' hb'; have hz2 := hb2.size; simp at hz2; clear hb2; unfold nodV)
    | (at_builtin; go_must (refine wpList_append_X _ rfl _ _ 23 23 rfl rowNod (eltNod (h' + 1)) w.heap.size _ _ (xs := d.take k) (ys := [n]) (news := [.int .i64 n.tag, .slice a1 n.attrs.length c1, .string ⟨n.text.toArray⟩, .slice a2 n.kids.length c2]) rfl rfl (HO.out.below (rdNod_stable _ _) ((((Keeps.refl _ _).alloc _).on HB2.out).alloc _)) (by simp; omega) (src_one rowNod w2 _ rfl (oneV_node _ _ _ _ _ _ _) 1) (news_apart (rdNod_stable _ _) HO.out hbs (NewsR.one rfl ⟨_, _, rfl, HA1.out.stable (rdOf_stable _) ((Keeps.refl _ _).alloc _) (fun b h _ => Nat.le_trans (by simp) h), HA2.out.stable (rdNod_stable _ _) ((Keeps.refl _ _).alloc _) (fun b h _ => Nat.le_trans (by simp) h)⟩)) htl ?_); intro v' w3 hR hB _ _; rw [← HT.out] at hR; have HR := Lib.hid hR; have HB3 := Lib.hid hB; clear hR hB))
   go_roundw
   case rel => exact ⟨k + 1, hlt, by go_num, HR.out, hb.trans ((((Below.refl _ _).alloc hbs _).trans (HB2.out.mono (by simp; omega))).alloc (by omega) _ |>.trans HB3.out)⟩
   case measure => simp [intOf]; omega
  ·obtain rfl : k = d.length := by omega
   have HT := Lib.hid (List.take_length (l := d))
   have HO := Lib.hid (hO.row (rdNod_stable _ _))
   have HB := Lib.hid hb
   clear hb hO
   go_wp2_with fail
   go_ret
   exact ⟨_, rfl, Eq.mp (congrArg (fun x => NodsR true h wr (fun b => w.heap.size ≤ b) _ x) HT.out) HO.out, HB.out⟩
theorem owns_any : ∀ h, OwnsAt h
 | 0 => owns_step 0 (fun _ e => by cases e)
 | h + 1 => owns_step (h + 1) (fun h' e => by cases e; exact owns_any h)
theorem nodOwn_any (h : Nat) (n : Nod) (a k : Value) (o1 o2 : Bool) (w w0 : World) (S : Nat → Prop) (hA : AttsR o1 w0 S a n.attrs) (hK : NodsR o2 h w0 S k n.kids) (h0 : Below w0.heap.size w0 w) (hs : FitN n) :
  Calls Tryz.prog 47 #[nodV n a k] w fun e w' => ∃ a' k', e = .returned (nodV n a' k') ∧ AttsR true w' (fun b => w.heap.size ≤ b) a' n.attrs ∧ NodsR true h w' (fun b => w.heap.size ≤ b) k' n.kids ∧ Below w.heap.size w w' := nodOwn_of h (owns_any h) n a k o1 o2 w w0 S hA hK h0 hs
end Go.Proofs.YtjpgffihafknlaaGreatDoor
namespace Go.Proofs.Qw
open Go.RowKit Go.Proofs.YtjpgffihafknlaaGreatDoor
theorem RwX.putLast {α : Type} {t : TypeId} {k : Nat} {R : Rd α} (hE : EltX k R) {w : World} {n b o c : Nat} {xs : List α} {z x : α} {vs : List Value} (h : RwX t k R w n (.slice (some ⟨b, o, none⟩) (xs.length + 1) c) (xs ++ [z])) (hx : R w (fun b' => n ≤ b' ∧ b' ≠ b) vs x) :
  RwX t k R (w.setCells b (o + xs.length * k) vs) n (.slice (some ⟨b, o, none⟩) (xs.length + 1) c) (xs ++ [x]) ∧ Below n w (w.setCells b (o + xs.length * k) vs) ∧ (∀ d, d ≠ b → (w.setCells b (o + xs.length * k) vs).heap[d]? = w.heap[d]?) ∧ (w.setCells b (o + xs.length * k) vs).heap.size = w.heap.size := by
 obtain ⟨a, c', e, h2, h3, hx'⟩ := h
 simp only [List.length_append, List.length_singleton] at e h2
 cases e
 have hl := hE.len _ _ _ _ hx
 rcases hx' with ⟨h, _⟩ | ⟨b', o', e, hb, hz, ⟨cs, f1, f2⟩, he⟩
 ·exact absurd h (by simp)
 cases e
 have hle : xs.length * k + k ≤ c * k := by rw [← Nat.succ_mul]; exact Nat.mul_le_mul_right _ h2
 obtain ⟨cs', k1, k2, k3, k4⟩ := setCells_heap vs w b (o + xs.length * k) cs t (0, 0) f1 (by omega)
 have hoth := setCells_other b vs (o + xs.length * k) w
 have hsz := setCells_size b vs (o + xs.length * k) w
 have hkeepR : ∀ vs' y, R w (fun b' => n ≤ b' ∧ b' ≠ b) vs' y → R (w.setCells b (o + xs.length * k) vs) (fun b' => n ≤ b' ∧ b' ≠ b) vs' y := fun vs' y h =>
  hE.st.go _ _ _ _ _ _ h ⟨Nat.le_of_eq hsz.symm, fun b' hb' _ => hoth b' hb'.2⟩ (fun _ h _ => h)
 refine ⟨⟨_, c, by simp, by simpa using h2, h3, .inr ⟨b, o, rfl, hb, by rw [hsz]; exact hz, ⟨cs', k1, by omega⟩, fun q y hq => ?_⟩⟩, setCells_below hb, hoth, hsz⟩
 by_cases hqx : q < xs.length
 ·rw [List.getElem?_append_left hqx] at hq
  obtain ⟨vs', r1, r2, r3⟩ := he q y (by rw [List.getElem?_append_left hqx]; exact hq)
  refine ⟨vs', r1, hkeepR _ _ r2, fun j u hu => ?_⟩
  have hj := (List.getElem?_eq_some_iff.1 hu).1
  have hle : q * k + k ≤ xs.length * k := by rw [← Nat.succ_mul]; exact Nat.mul_le_mul_right _ hqx
  rw [cell_of_heap k1, k3 _ (.inl (by omega)), ← cell_of_heap f1]
  exact r3 j u hu
 ·have hql := (List.getElem?_eq_some_iff.1 hq).1
  simp only [List.length_append, List.length_singleton] at hql
  obtain rfl : q = xs.length := by omega
  rw [List.getElem?_append_right (Nat.le_refl _), Nat.sub_self] at hq
  cases hq
  refine ⟨vs, hl, hkeepR _ _ hx, fun j u hu => ?_⟩
  have := k4 _ u hu
  rw [cell_of_heap k1]
  exact this
end Go.Proofs.Qw
namespace Go.Proofs.Qw
open Go.RowKit Go.Proofs.YtjpgffihafknlaaGreatDoor
theorem SliceR.avoidR {α : Type} {t : TypeId} {k : Nat} {R : Rd α} {w : World} {S : Nat → Prop} {v : Value} {xs : List α} (h : SliceR t k R true w S v xs) {b : Nat} {o : Obj} (hb : w.heap[b]? = some o) (ho : o.isCells = false) (hR : ∀ vs x, R w S vs x → R w (fun d => S d ∧ d ≠ b) vs x) : SliceR t k R true w (fun d => S d ∧ d ≠ b) v xs := by
 obtain ⟨a, c, e, hc, hm, hx⟩ := h
 refine ⟨a, c, e, hc, hm, ?_⟩
 rcases hx with h1 | ⟨d, o', e, hd, hz, hf, he⟩
 ·exact .inl h1
 ·obtain ⟨cs2, g1, g2⟩ := hf rfl
  refine .inr ⟨d, o', e, ⟨hd, fun e2 => by subst e2; rw [hb] at g1; cases g1; cases ho⟩, hz, hf, fun i x hi => ?_⟩
  obtain ⟨vs, r1, r2, r3⟩ := he i x hi
  exact ⟨vs, r1, hR _ _ r2, r3⟩
theorem rdNod_avoid {w : World} {b : Nat} {o : Obj} (hb : w.heap[b]? = some o) (ho : o.isCells = false) : ∀ (h : Nat) {S : Nat → Prop} {vs : List Value} {n : Nod}, rdNod true h w S vs n → rdNod true h w (fun d => S d ∧ d ≠ b) vs n
 | 0, _, _, _, h => h.elim
 | h + 1, _, _, _, ⟨a, k, e, h1, h2⟩ => ⟨a, k, e, h1.avoidR hb ho (fun _ _ g => g), h2.avoidR hb ho (fun _ _ g => rdNod_avoid hb ho h g)⟩
theorem rowx_own {β : Type} (B n h : Nat) (v : Value) (f : β → List Nod) : OwnFrom B (fun (s : β) (W : World) => RwX 25 4 (rdNod true h) W n v (f s)) := fun s X Y row hs hg hr => by
 cases row with
 | none => exact RwX.below (rdNod_stable _ _) hs ⟨hg.size, fun b _ hz => hg.block b hz (by simp)⟩
 | some r =>
  obtain ⟨_, ob, hob, hnc⟩ := hr r rfl
  obtain ⟨a, c, h1, h2, h3, h | ⟨b, o, rfl, hb, hz, ⟨cs, f1, f2⟩, he⟩⟩ := hs
  ·exact ⟨a, c, h1, h2, h3, .inl h⟩
  ·have hbr : b ≠ r := fun e => by subst e; rw [hob] at f1; cases f1; cases hnc
   have hbk : Y.heap[b]? = X.heap[b]? := hg.block b hz (fun e => by cases e; exact hbr rfl)
   refine ⟨_, c, h1, h2, h3, .inr ⟨b, o, rfl, hb, Nat.lt_of_lt_of_le hz hg.size, ⟨cs, hbk.trans f1, f2⟩, fun i x hx => ?_⟩⟩
   obtain ⟨vs, g1, g2, g3⟩ := he i x hx
   refine ⟨vs, g1, (rdNod_stable _ _).go _ _ _ _ _ _ (rdNod_avoid hob hnc _ g2) ⟨hg.size, fun d hd hz' => hg.block d hz' (fun e => by cases e; exact hd.2 rfl)⟩ (fun _ hd _ => hd.1), fun j u hu => by rw [World.cell?_of_block (w := X) hbk]; exact g3 j u hu⟩
theorem rowx_last {h : Nat} {w : World} {n : Nat} {v : Value} {xs : List Nod} {z : Nod} (hr : RwX 25 4 (rdNod true h) w n v (xs ++ [z])) :
  ∃ b o c aa ac ka kc, v = .slice (some ⟨b, o, none⟩) (xs.length + 1) c ∧ n ≤ b ∧ b < w.heap.size ∧ (∃ cs, w.heap[b]? = some (.cells cs 25)) ∧ (∀ k, w.frozen? ⟨b, k, none⟩ = false) ∧
   w.cell? ⟨b, o + xs.length * 4, none⟩ = some (.int .i64 z.tag) ∧ w.cell? ⟨b, o + xs.length * 4 + 1, none⟩ = some (.slice aa z.attrs.length ac) ∧ w.cell? ⟨b, o + xs.length * 4 + 2, none⟩ = some (.string ⟨z.text.toArray⟩) ∧ w.cell? ⟨b, o + xs.length * 4 + 3, none⟩ = some (.slice ka z.kids.length kc) ∧ c ≤ maxLen := by
 obtain ⟨a, c, e, h2, h3, ⟨h0, _⟩ | ⟨b, o, rfl, hb, hz, ⟨cs, f1, f2⟩, he⟩⟩ := hr
 ·exact absurd h0 (by simp)
 obtain ⟨vs, g1, g2, g3⟩ := he xs.length z (by simp)
 match h, g2 with
 | h' + 1, ⟨x, y, ev, r1, r2⟩ =>
  subst ev
  obtain ⟨aa, ac, rfl⟩ := r1.slice
  obtain ⟨ka, kc, rfl⟩ := r2.slice
  refine ⟨b, o, c, aa, ac, ka, kc, by rw [e]; simp, hb, hz, ⟨cs, f1⟩, fun k => frozen_of_heap f1, g3 0 _ rfl, g3 1 _ rfl, g3 2 _ rfl, g3 3 _ rfl, h3⟩
def zeroN : Nod := .mk 0 [] [] []
theorem zero_news {h : Nat} {w : World} {S : Nat → Prop} : NewsR 4 (rdNod true (h + 1)) w S [.int .i64 0, .slice none 0 0, .string ⟨#[]⟩, .slice none 0 0] [zeroN] :=
 NewsR.one rfl ⟨_, _, rfl, SliceR.nil _ _ _ _ _ _, SliceR.nil _ _ _ _ _ _⟩
theorem src_node {w : World} {B : Nat} {u1 u2 u3 u4 : Value} (hB : w.heap[B]? = some (.cells #[u1, u2, u3, u4] 25)) (h1 : ∀ u ∈ [u1, u2, u3, u4], u.oneCell' = true) (c : Nat) : Src Tryz.prog 4 23 (.slice (some ⟨B, 0, none⟩) 1 c) 1 [u1, u2, u3, u4] w :=
 Src.ofSlice _ rowNod.under _ 1 c _ (by simp) (fun j u hu => by
  rw [WideShapes.add_plain, cell_of_heap hB, Nat.zero_add]
  simpa using hu) h1
end Go.Proofs.Qw
namespace Go.Proofs.YtjpgffihafknlaaGreatDoor
open Go.RowKit
open Go.Proofs.Qw
attribute [local go_sem ↓] Go.wp_at_zero Go.wp_at_succ
theorem one_node (w : World) (x1 x2 x3 x4 : Value) : ∃ W1, w.alloc (.cells #[x1, x2, x3, x4] 25) = W1 ∧ Below w.heap.size w W1 ∧ w.heap.size + 1 = W1.heap.size ∧ W1.heap[w.heap.size]? = some (.cells #[x1, x2, x3, x4] 25) :=
 ⟨_, rfl, (Below.refl _ _).alloc (Nat.le_refl _) _, by simp, heap_new _ _ rfl⟩
end Go.Proofs.YtjpgffihafknlaaGreatDoor
namespace Go.Proofs.Qw
open Go.RowKit Go.Proofs.YtjpgffihafknlaaGreatDoor
def wrapT (b : Int) : Nat → List Nod → List Nod
 | 0, l => l
 | 1, l => wrap1 b 8 14 l
 | 2, l => wrap1 b 4 13 (wrap1 b 8 14 l)
 | 3, l => wrap1 b 2 12 (wrap1 b 4 13 (wrap1 b 8 14 l))
 | _, l => wrapB b l
theorem SliceR.one_new {α : Type} {t : TypeId} {k : Nat} {R : Rd α} {own : Bool} (w : World) {S : Nat → Prop} (vs : List Value) {x : α} (hk : vs.length = k) (hR : R (w.alloc (.cells vs.toArray t)) S vs x) (hS : S w.heap.size) :
  SliceR t k R own (w.alloc (.cells vs.toArray t)) S (.slice (some ⟨w.heap.size, 0, none⟩) 1 1) [x] :=
 ⟨_, 1, rfl, by simp, by decide, .inr ⟨w.heap.size, 0, rfl, hS, by simp, fun _ => ⟨_, heap_new _ _ rfl, by simp [hk]⟩, fun i y hy => by
  cases i with
  | zero =>
   injection hy with e
   subst e
   exact ⟨vs, hk, hR, fun j u hu => by rw [cell_of_heap (heap_new _ _ rfl)]; simpa using hu⟩
  | succ i => simp at hy⟩⟩
theorem nods_wrap {h : Nat} {w : World} {n : Nat} {v a : Value} {l : List Nod} {ats : List Att} (t : Int) (hv : NodsR true h w (fun b => n ≤ b) v l) (ha : AttsR true w (fun b => n ≤ b) a ats) (hn : n ≤ w.heap.size) :
  NodsR true (h + 1) (w.alloc (.cells #[.int .i64 t, a, .string ⟨#[]⟩, v] 25)) (fun b => n ≤ b) (.slice (some ⟨w.heap.size, 0, none⟩) 1 1) [.mk t ats [] l] :=
 SliceR.one_new w [.int .i64 t, a, .string ⟨#[]⟩, v] rfl ⟨a, v, rfl, SliceR.stable (rdOf_stable _) ha ((Keeps.refl _ _).alloc _) (fun _ h _ => h), SliceR.stable (rdNod_stable _ _) hv ((Keeps.refl _ _).alloc _) (fun _ h _ => h)⟩ hn
end Go.Proofs.Qw
namespace Go.Proofs.YtjpgffihafknlaaGreatDoor
open Go.RowKit
open Go.Proofs.Qw
attribute [local go_sem ↓] Go.wp_at_zero Go.wp_at_succ
set_option maxHeartbeats 1000000 in
theorem text_node (x : List UInt8) (w : World) : Calls Tryz.prog 171 #[.string ⟨x.toArray⟩] w fun e w' => e = .returned (nodV (.mk 0 [] x []) (.slice none 0 0) (.slice none 0 0)) ∧ Below w.heap.size w w' := by
 obtain ⟨W1, hW1, hB, hz, hB1⟩ := one_node w (.int .i64 0) (.slice none 0 0) (.string ⟨#[]⟩) (.slice none 0 0)
 obtain ⟨p1, f1⟩ := blk hB1
 go_enter Tryz.func171, Tryz.ntmps171
 go_wp2_with fail
 refine bodyPost_ret (results_node rfl _ _ w.heap.size (.int .i64 0) (.slice none 0 0) (.string ⟨x.toArray⟩) (.slice none 0 0) rfl (by simp [heap_set, putIn, hB1])) rfl ?_
 exact ⟨rfl, (((hB.setCell (Nat.le_refl _) _).setCell (Nat.le_refl _) _).setCell (Nat.le_refl _) _).setCell (Nat.le_refl _) _⟩
set_option maxHeartbeats 2000000 in
theorem elem_any (h : Nat) (t : Int) (v : Value) (l : List Nod) (own : Bool) (w w0 : World) (S : Nat → Prop) (hv : NodsR own h w0 S v l) (h0 : Below w0.heap.size w0 w) (hn : l.length ≤ 1000000) (hf : FitK l) :
  Calls Tryz.prog 58 #[.int .i64 t, v] w fun e w' => ∃ k', e = .returned (nodV (.mk t [] [] l) (.slice none 0 0) k') ∧ NodsR true h w' (fun b => w.heap.size ≤ b) k' l ∧ Below w.heap.size w w' := by
 have HC : Hid (∀ W, Below w0.heap.size w0 W → Calls Tryz.prog 77 #[v] W fun e w' => ∃ v', e = .returned v' ∧ NodsR true h w' (fun b => W.heap.size ≤ b) v' l ∧ Below W.heap.size W w') := Lib.hid fun W hW => owns_any h v l own W w0 S hv hW hn hf
 obtain ⟨a, c, rfl⟩ := hv.slice
 obtain ⟨W1, hW1, hB, hz, hB1⟩ := one_node w (.int .i64 0) (.slice none 0 0) (.string ⟨#[]⟩) (.slice none 0 0)
 have hw := below_from h0 hB
 have HZ := Lib.hid hz
 clear hv hn hf hz
 go_enter Tryz.func58, Tryz.ntmps58
 go_wp2_with (go_at_call 77; refine (HC.out _ hw).mono ?_; rintro e w2 ⟨v1, rfl, hv1, hb1⟩; obtain ⟨a1, c1, rfl⟩ := hv1.slice; have hB2 := heap_below hb1 hB1; obtain ⟨p1, f1⟩ := blk hB2)
 have z := HZ.out
 have hz1 := hb1.size
 refine bodyPost_ret (results_node rfl _ _ w.heap.size (.int .i64 t) (.slice none 0 0) (.string ⟨#[]⟩) (.slice a1 l.length c1) rfl (by simp [heap_set, putIn, hB2])) rfl ?_
 refine ⟨_, rfl, hv1.stable (rdNod_stable _ _) (((((Keeps.refl _ _).set (by simp; omega) _).set (by simp; omega) _).set (by simp; omega) _).set (by simp; omega) _) (fun b h _ => ?_), ?_⟩
 ·(try simp at h); omega
 ·have hbb := hB.trans (hb1.mono (by omega))
  exact (((hbb.setCell (Nat.le_refl _) _).setCell (Nat.le_refl _) _).setCell (Nat.le_refl _) _).setCell (Nat.le_refl _) _
set_option maxRecDepth 100000 in
set_option maxHeartbeats 4000000 in
theorem wrap_high (h : Nat) (b : Int) (href : List UInt8) (v : Value) (l : List Nod) (own : Bool) (w w0 : World) (S : Nat → Prop) (hv : NodsR own h w0 S v l) (h0 : Below w0.heap.size w0 w) (hn : l.length ≤ 1000000) (hf : FitK l) :
  Calls Tryz.prog 135 #[.int .i64 b, .string ⟨href.toArray⟩, v] w fun e w' => ∃ v' h', e = .returned v' ∧ NodsR true h' w' (fun b => w.heap.size ≤ b) v' (wrapN b href l) ∧ Below w.heap.size w w' ∧ h' ≤ h + 5 := by
 have HC : Hid (∀ W, Below w0.heap.size w0 W → Calls Tryz.prog 77 #[v] W fun e w' => ∃ v', e = .returned v' ∧ NodsR true h w' (fun b => W.heap.size ≤ b) v' l ∧ Below W.heap.size W w') := Lib.hid fun W hW => owns_any h v l own W w0 S hv hW hn hf
 obtain ⟨a, c, rfl⟩ := hv.slice
 have HLen : Hid (l.length = l.length) := Lib.hid rfl
 clear hv hn hf
 go_enter Tryz.func135, Tryz.ntmps135
 go_wp2_with (go_at_call 77; refine (HC.out _ h0).mono ?_; rintro e w2 ⟨v1, rfl, hv1, hb1⟩; obtain ⟨a1, c1, hve⟩ := hv1.slice; subst hve; have HV := Lib.hid hv1; have HB := Lib.hid hb1; clear hv1)
 have hz1 := hb1.size
 obtain ⟨W3, hW3⟩ : ∃ W3, w2.alloc (.cells #[.int .i64 14, .int .i64 13, .int .i64 12, .int .i64 11] 3) = W3 := ⟨_, rfl⟩
 have hB3 : W3.heap[w2.heap.size]? = some (.cells #[.int .i64 14, .int .i64 13, .int .i64 12, .int .i64 11] 3) := by rw [← hW3]; exact heap_new _ _ rfl
 have HV3 : Hid (NodsR true h W3 (fun b => w.heap.size ≤ b) (.slice a1 l.length c1) l) := Lib.hid (by rw [← hW3]; exact HV.out.stable (rdNod_stable _ _) ((Keeps.refl _ _).alloc _) (fun _ h _ => h))
 have HB3 : Hid (Below w.heap.size w W3) := Lib.hid (by rw [← hW3]; exact HB.out.alloc hz1 _)
 have HZ3 : Hid (W3.heap[w2.heap.size]? = some (.cells #[.int .i64 14, .int .i64 13, .int .i64 12, .int .i64 11] 3)) := Lib.hid hB3
 rw [hW3]
 go_loopw [7, 9, 14] (fun o _ i wr => ∃ (k : Nat) (z : Int) (h2 : Nat), z = k ∧ k ≤ 4 ∧ h2 ≤ h + k ∧ i = .int .i64 z ∧ Hid (NodsR true h2 wr (fun b => w.heap.size ≤ b) o (wrapT b k l)) ∧ Hid (Below W3.heap.size W3 wr)) (fun _ _ i _ => 4 - (intOf i).toNat)
 case atStart => exact ⟨0, 0, h, rfl, by omega, by omega, rfl, HV3, Lib.hid (Below.refl _ _)⟩
 case round =>
  obtain ⟨k, z, h2, hz, hk, hh2, rfl, HO, HR⟩ := hrel
  have HH2 := Lib.hid hh2
  obtain ⟨q0, g0⟩ := blk (heap_below HR.out HZ3.out)
  obtain ⟨oa, oc, hoe⟩ := HO.out.slice
  subst hoe
  have HS3 := Lib.hid (HB3.out.size)
  have HSR := Lib.hid (HR.out.size)
  have HT : Hid (w2.heap.size < W3.heap.size) := Lib.hid (by rw [← hW3]; simp)
  generalize hln : (wrapT b k l).length = ln at *
  have HLN := Lib.hid hln
  clear hln hW3 hB3
  obtain ⟨rfl, rfl⟩ | ⟨rfl, rfl⟩ | ⟨rfl, rfl⟩ | ⟨rfl, rfl⟩ | ⟨rfl, rfl⟩ : (z = 0 ∧ k = 0) ∨ (z = 1 ∧ k = 1) ∨ (z = 2 ∧ k = 2) ∨ (z = 3 ∧ k = 3) ∨ (z = 4 ∧ k = 4) := by omega
  all_goals clear hz hk hh2
  ·by_cases hb : bits .and .i64 b 8 = 0
   ·have HBB := Lib.hid hb
    go_wp2_with fail
    go_roundw
    case rel => exact ⟨1, 1, h2, rfl, by omega, by have := HH2.out; omega, by go_num, Lib.hid (by have h1 := HO.out; exact Eq.mp (congrArg (fun z => NodsR true h2 wr (fun b => w.heap.size ≤ b) _ z) (show wrapT b 0 l = wrapT b 1 l from (if_pos HBB.out).symm)) h1), HR⟩
    case measure => simp [intOf]
   ·have HBB := Lib.hid hb
    go_wp2_with fail
    go_roundw
    case rel => exact ⟨1, 1, h2 + 1, rfl, by omega, by have := HH2.out; omega, by go_num, Lib.hid (by have h1 := HO.out; rw [show wrapT b 1 l = [.mk 14 [] [] (wrapT b 0 l)] from if_neg HBB.out]; exact nods_wrap 14 h1 (SliceR.nil _ _ _ _ _ _) (Nat.le_trans HS3.out HSR.out)), Lib.hid (HR.out.alloc HSR.out _)⟩
    case measure => simp [intOf]
  ·by_cases hb : bits .and .i64 b 4 = 0
   ·have HBB := Lib.hid hb
    go_wp2_with fail
    go_roundw
    case rel => exact ⟨2, 2, h2, rfl, by omega, by have := HH2.out; omega, by go_num, Lib.hid (by have h1 := HO.out; exact Eq.mp (congrArg (fun z => NodsR true h2 wr (fun b => w.heap.size ≤ b) _ z) (show wrapT b 1 l = wrapT b 2 l from (if_pos HBB.out).symm)) h1), HR⟩
    case measure => simp [intOf]
   ·have HBB := Lib.hid hb
    go_wp2_with fail
    go_roundw
    case rel => exact ⟨2, 2, h2 + 1, rfl, by omega, by have := HH2.out; omega, by go_num, Lib.hid (by have h1 := HO.out; rw [show wrapT b 2 l = [.mk 13 [] [] (wrapT b 1 l)] from if_neg HBB.out]; exact nods_wrap 13 h1 (SliceR.nil _ _ _ _ _ _) (Nat.le_trans HS3.out HSR.out)), Lib.hid (HR.out.alloc HSR.out _)⟩
    case measure => simp [intOf]
  ·by_cases hb : bits .and .i64 b 2 = 0
   ·have HBB := Lib.hid hb
    go_wp2_with fail
    go_roundw
    case rel => exact ⟨3, 3, h2, rfl, by omega, by have := HH2.out; omega, by go_num, Lib.hid (by have h1 := HO.out; exact Eq.mp (congrArg (fun z => NodsR true h2 wr (fun b => w.heap.size ≤ b) _ z) (show wrapT b 2 l = wrapT b 3 l from (if_pos HBB.out).symm)) h1), HR⟩
    case measure => simp [intOf]
   ·have HBB := Lib.hid hb
    go_wp2_with fail
    go_roundw
    case rel => exact ⟨3, 3, h2 + 1, rfl, by omega, by have := HH2.out; omega, by go_num, Lib.hid (by have h1 := HO.out; rw [show wrapT b 3 l = [.mk 12 [] [] (wrapT b 2 l)] from if_neg HBB.out]; exact nods_wrap 12 h1 (SliceR.nil _ _ _ _ _ _) (Nat.le_trans HS3.out HSR.out)), Lib.hid (HR.out.alloc HSR.out _)⟩
    case measure => simp [intOf]
  ·by_cases hb : bits .and .i64 b 1 = 0
   ·have HBB := Lib.hid hb
    go_wp2_with fail
    go_roundw
    case rel => exact ⟨4, 4, h2, rfl, by omega, by have := HH2.out; omega, by go_num, Lib.hid (by have h1 := HO.out; exact Eq.mp (congrArg (fun z => NodsR true h2 wr (fun b => w.heap.size ≤ b) _ z) (show wrapT b 3 l = wrapT b 4 l from (if_pos HBB.out).symm)) h1), HR⟩
    case measure => simp [intOf]
   ·have HBB := Lib.hid hb
    go_wp2_with fail
    go_roundw
    case rel => exact ⟨4, 4, h2 + 1, rfl, by omega, by have := HH2.out; omega, by go_num, Lib.hid (by have h1 := HO.out; rw [show wrapT b 4 l = [.mk 11 [] [] (wrapT b 3 l)] from if_neg HBB.out]; exact nods_wrap 11 h1 (SliceR.nil _ _ _ _ _ _) (Nat.le_trans HS3.out HSR.out)), Lib.hid (HR.out.alloc HSR.out _)⟩
    case measure => simp [intOf]
  ·have HS := Lib.hid (Nat.le_trans HS3.out HSR.out)
   have HBW : Hid (Below w.heap.size w wr) := Lib.hid (HB3.out.trans (HR.out.mono HS3.out))
   by_cases hb : href = []
   ·have HBB := Lib.hid hb
    subst hb
    go_wp2_with fail
    go_ret
    exact ⟨_, rfl, ⟨h2, HO.out, HBW.out, by have := HH2.out; omega⟩⟩
   ·have HBB := Lib.hid hb
    have hq : href.isEmpty = false := by cases href with | nil => exact absurd rfl hb | cons _ _ => rfl
    clear hb
    go_wp2_with fail
    go_ret
    refine ⟨_, h2 + 1, rfl, ?_, (HBW.out.alloc HS.out _).alloc (Nat.le_trans HS.out (by simp)) _, by have := HH2.out; omega⟩
    rw [show wrapN b href l = [.mk 10 (hrefA href) [] (wrapT b 4 l)] from if_neg HBB.out]
    have h1 : NodsR true h2 (wr.alloc (.cells #[.string ⟨#[104, 114, 101, 102]⟩, .string ⟨href.toArray⟩] 105)) (fun b => w.heap.size ≤ b) (.slice oa ln oc) (wrapT b 4 l) := HO.out.stable (rdNod_stable _ _) ((Keeps.refl _ _).alloc _) (fun _ h _ => h)
    have h3 : AttsR true (wr.alloc (.cells #[.string ⟨#[104, 114, 101, 102]⟩, .string ⟨href.toArray⟩] 105)) (fun b => w.heap.size ≤ b) (.slice (some ⟨wr.heap.size, 0, none⟩) 1 1) (hrefA href) := SliceR.one_new wr [.string ⟨#[104, 114, 101, 102]⟩, .string ⟨href.toArray⟩] rfl rfl HS.out
    have h4 := nods_wrap 10 h1 h3 (Nat.le_trans HS.out (by simp))
    simpa using h4
end Go.Proofs.YtjpgffihafknlaaGreatDoor
namespace Go.Proofs.YtjpgffihafknlaaGreatDoor
open Go.RowKit
open Go.Proofs.Qw
attribute [local go_sem] Oper.semAt_some
theorem rowRn : RowT Tryz.prog 90 21 1 := RowT.mk' (y := 4) Tryz.underlying90 (by kernel_rfl) (by decide) (z := .int .i32 0) (by decide)
theorem eltRn : Elt 21 1 (rdOf encRune) := elt_of _ (by decide) (fun _ => rfl) (fun x u hu => by simp [encRune] at hu; subst hu; rfl)
theorem oneV_rn (r : Int) : ∀ u ∈ [Value.int .i32 r], u.oneCell' = true := fun u hu => by simp at hu; subst hu; rfl
theorem src_rn (w : World) (r : Int) (c : Nat) {B : Nat} (hB : B = w.heap.size) : Src Tryz.prog 1 90 (.slice (some ⟨B, 0, none⟩) 1 c) 1 [.int .i32 r] (w.alloc (.cells #[.int .i32 r] 21)) := hB ▸ src_one rowRn w [.int .i32 r] rfl (oneV_rn r) c
set_option maxHeartbeats 1000000 in
theorem textOf_any (v : Value) (l : List Int) (w : World) (S : Nat → Prop) (h : RunesR false w S v l) :
  Calls Tryz.prog 172 #[v] w fun e w' => e = .returned (.string (runesBytes l)) ∧ Below w.heap.size w w' := by
 have hcv := string_runes h
 obtain ⟨a, c, rfl⟩ := h.slice
 clear h
 go_enter Tryz.func172, Tryz.ntmps172
 go_wp2_with fail
 go_ret
 exact ⟨rfl, Below.refl _ _⟩
end Go.Proofs.YtjpgffihafknlaaGreatDoor
