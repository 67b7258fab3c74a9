/- The walk of the law ViewMay. -/
import Derived.Test.YtjpgffihafknlaaGreatDoorVwRowsV
import Derived.Test.YtjpgffihafknlaaGreatDoorTagClassV
set_option linter.unusedVariables false
set_option linter.unusedSimpArgs false
namespace Go.Proofs.YtjpgffihafknlaaGreatDoor
open Go.RowKit
open Go.Proofs.Qw
attribute [local go_sem] Oper.semAt_some
theorem light_of {n : Nod} (h : decide (weighN n 3000 < 0) = false) : n.mass ≤ 3000 := by
 have h : ¬ weighN n 3000 < 0 := by simpa using h
 have := weighN_is n 3000 (by omega)
 omega
set_option maxRecDepth 100000 in
set_option maxHeartbeats 4000000 in
theorem lawVwMay_any (HCs : CssP) (h : Nat) (n : Nod) (na nk pv : Value) (path : List Int) (pk : Int) (w : World) (S S' : Nat → Prop) (hA : AttsR false w S na n.attrs) (hK : NodsR false h w S nk n.kids) (hs : n.Sane) (hp : IntsR false w S' pv path) (he : EnvT w) :
  Calls Tryz.prog 6 #[nodV n na nk, .agg #[pv, .int .i64 pk]] w fun e w' => e = .returned (.bool true) ∧ Below w.heap.size w w' := by
 have HA : Hid (∀ W, Below w.heap.size w W → Calls Tryz.prog 10 #[] W fun e w' => e = .returned (.bool true) ∧ Below W.heap.size W w') := Lib.hid fun W hW => awake18_any HCs W (he.below hW)
 have HH : Hid (∀ W, Below w.heap.size w W → Calls Tryz.prog 9 #[nodV n na nk] W fun e w' => e = .returned (.bool (decide (weighN n 3000 < 0))) ∧ Below W.heap.size W w') := Lib.hid fun W hW => heavy18_any h n na nk W w S hA hK hW hs
 have HV : Hid (decide (weighN n 3000 < 0) = false → ∀ W, Below w.heap.size w W → Calls Tryz.prog 12 #[nodV n na nk] W fun e w' => ∃ va vc, e = .returned (.tuple #[.slice va (viewN n).1.length vc, .int .i64 (viewN n).2]) ∧ LinsR w' (fun _ => True) (.slice va (viewN n).1.length vc) (viewN n).1 ∧ Below W.heap.size W w') := Lib.hid fun hl W hW => (view_any HCs h n na nk W w S hA hK he hW (ex_fit n (light_of hl)).1 (ex_fit n (light_of hl)).2).mono fun _ _ ⟨va, vc, h1, h2, h3⟩ => ⟨va, vc, h1, (DocR.read h2).stable (rdLin_stable _) (Keeps.refl _ _) (fun _ _ _ => trivial), h3⟩
 have HPo : Hid (decide (weighN n 3000 < 0) = false → ∀ W, Below w.heap.size w W → Calls Tryz.prog 19 #[nodV n na nk, .agg #[pv, .int .i64 pk]] W fun e w' => e = .returned (.tuple #[.agg #[.int .i64 (posN n (path, pk)).1.line, .int .i64 (posN n (path, pk)).1.col], .int .i64 (posN n (path, pk)).2]) ∧ Below W.heap.size W w') := Lib.hid fun hl W hW => pos_any HCs h n na nk pv path pk W w S S' hA hK he hW (ex_fit n (light_of hl)).1 (ex_fit n (light_of hl)).2 hp
 have HCl : Hid (decide (weighN n 3000 < 0) = false → ∀ W, Below w.heap.size w W → Calls Tryz.prog 25 #[nodV n na nk] W fun e w' => e = .returned (.int .i64 (cellsN n)) ∧ Below W.heap.size W w') := Lib.hid fun hl W hW => cll_all h n na nk W S (hA.below (rdOf_stable _) hW) (hK.below (rdNod_stable _ _) hW) (Nat.le_trans (ex_fit n (light_of hl)).2 (by decide))
 have HLaw := Lib.hid (view_may n (path, pk))
 have HE := Lib.hid he
 obtain ⟨la, lc, rfl⟩ := hA.slice
 obtain ⟨ka, kc, rfl⟩ := hK.slice
 obtain ⟨pa, pc, rfl⟩ := hp.slice
 have hpm := (SliceR.len hp).2
 obtain ⟨W1, hW1⟩ : ∃ W1, (w.alloc (.cells #[.int .i64 n.tag, .slice la n.attrs.length lc, .string ⟨n.text.toArray⟩, .slice ka n.kids.length kc] 25)).alloc (.cells #[.slice pa path.length pc, .int .i64 pk] 44) = W1 := ⟨_, rfl⟩
 have hB : Below w.heap.size w W1 := hW1 ▸ ((Below.refl _ _).alloc (Nat.le_refl _) _).alloc (by simp) _
 have z1 : W1.heap[w.heap.size]? = some (.cells #[.int .i64 n.tag, .slice la n.attrs.length lc, .string ⟨n.text.toArray⟩, .slice ka n.kids.length kc] 25) := hW1 ▸ heap_old _ _ (heap_new _ _ rfl)
 have z2 : W1.heap[w.heap.size + 1]? = some (.cells #[.slice pa path.length pc, .int .i64 pk] 44) := hW1 ▸ heap_new _ _ (by simp)
 have HZ := Lib.hid (And.intro z1 z2)
 have HB := Lib.hid hB
 have HW1 := Lib.hid hW1
 obtain ⟨q1, g1⟩ := blk z1
 rw [← hW1] at q1 g1
 obtain ⟨hpm1, hpm2⟩ := hpm
 unfold maxLen at hpm2
 unfold nodV at *
 obtain ⟨hv, hhv⟩ : ∃ b, decide (weighN n 3000 < 0) = b := ⟨_, rfl⟩
 rw [hhv] at HH HV HPo HCl
 clear hA hK hs hp he HCs hB z1 z2 hW1 hhv
 go_enter Tryz.func6, Tryz.ntmps6
 cases hv
 ·replace HV := Lib.hid (HV.out rfl)
  replace HPo := Lib.hid (HPo.out rfl)
  replace HCl := Lib.hid (HCl.out rfl)
  by_cases hlong : 3000 < path.length
  ·have hld : decide ((3000 : Int) < (path.length : Int)) = true := decide_eq_true (by omega)
   have hld2 : decide (3000 < path.length) = true := decide_eq_true hlong
   clear hlong
   go_wp2_with (first
    | (go_at_call 9; rw [HW1.out]; refine (HH.out _ HB.out).mono ?_; rintro e w2 ⟨rfl, hb2⟩; have hx2 := below_from HB.out hb2; obtain ⟨q2, g2⟩ := blk (heap_below hb2 HZ.out.2))
    | (go_at_call 10; refine (HA.out _ hx2).mono ?_; rintro e w3 ⟨rfl, hb3⟩))
   go_ret
   exact ⟨rfl, below_from hx2 hb3⟩
  ·have hld : decide ((3000 : Int) < (path.length : Int)) = false := decide_eq_false (by omega)
   have hld2 : decide (3000 < path.length) = false := decide_eq_false hlong
   clear hlong
   go_upto_if 16 with (first
    | (go_at_call 9; rw [HW1.out]; refine (HH.out _ HB.out).mono ?_; rintro e w2 ⟨rfl, hb2⟩; have hx2 := below_from HB.out hb2; obtain ⟨q2, g2⟩ := blk (heap_below hb2 HZ.out.2); obtain ⟨q3, g3⟩ := blk (heap_below hb2 HZ.out.1)))
   go_upto_region 5 with (first
    | (go_at_call 12; refine (HV.out _ hx2).mono ?_; rintro e w3 ⟨va, vc, rfl, hd3, hb3⟩; have hx3 := below_from hx2 hb3; have hy3 := below_from hb2 hb3; obtain ⟨q4, g4⟩ := blk (heap_below hy3 HZ.out.2); obtain ⟨q5, g5⟩ := blk (heap_below hy3 HZ.out.1))
    | (go_at_call 19; refine (HPo.out _ hx3).mono ?_; rintro e w4 ⟨rfl, hb4⟩; have hx4 := below_from hx3 hb4; have hy4 := below_from hy3 hb4))
   obtain ⟨W5, hW5⟩ : ∃ W, w4.alloc (.cells #[.int .i64 (posN n (path, pk)).1.line, .int .i64 (posN n (path, pk)).1.col] 46) = W := ⟨_, rfl⟩
   rw [hW5]
   have hb45 : Below w4.heap.size w4 W5 := hW5 ▸ (Below.refl _ _).alloc (Nat.le_refl _) _
   have hx5 := below_from hx4 hb45
   have hy5 := below_from hy4 hb45
   have HP5 : Hid (W5.heap[w4.heap.size]? = some (.cells #[.int .i64 (posN n (path, pk)).1.line, .int .i64 (posN n (path, pk)).1.col] 46)) := Lib.hid (hW5 ▸ heap_new _ _ rfl)
   have HD5 := Lib.hid ((hd3.below (rdLin_stable _) hb4).below (rdLin_stable _) hb45)
   have HX5 := Lib.hid hx5
   have HY5 := Lib.hid hy5
   have HDL := Lib.hid (SliceR.len hd3).2
   obtain ⟨hl1, hl2, hl3⟩ := HLaw.out
   clear q1 g1 q2 g2 q3 g3 q4 g4 q5 g5 hb2 hb3 hb4 hx2 hx3 hx4 hy3 hy4 hW5 hb45 hd3 hx5 hy5 HV HPo HH HLaw
   generalize viewN n = vn at *
   generalize posN n (path, pk) = pn at *
   obtain ⟨dl, er⟩ := vn
   obtain ⟨ps, fr⟩ := pn
   replace hl1 : er = 0 ∨ er = 10 ∧ dl = [] := hl1
   replace hl2 : fr = er := hl2
   replace hl3 : er = 0 → mayD dl = true ∧ sizeD dl = cellsN n ∧ isD dl ps = true := hl3
   replace HP5 : Hid (W5.heap[w4.heap.size]? = some (.cells #[.int .i64 ps.line, .int .i64 ps.col] 46)) := HP5
   replace HD5 : Hid (LinsR W5 (fun _ => True) (.slice va dl.length vc) dl) := HD5
   replace HDL : Hid (dl.length ≤ vc ∧ vc ≤ maxLen) := HDL
   subst hl2
   rcases hl1 with rfl | ⟨rfl, rfl⟩
   ·obtain ⟨hm, hsz, hi⟩ := hl3 rfl
    have HM : Hid (∀ W, Below W5.heap.size W5 W → Calls Tryz.prog 23 #[.slice va dl.length vc] W fun e w' => e = .returned (.bool true) ∧ Below W.heap.size W w') := Lib.hid fun W hW => by
     have := docMay_any _ dl W W5 _ HD5.out (HE.out.below (below_from HX5.out hW)) hW (may_smallV hm)
     rw [hm] at this
     exact this
    have HS : Hid (∀ W, Below W5.heap.size W5 W → Calls Tryz.prog 24 #[.slice va dl.length vc] W fun e w' => e = .returned (.int .i64 (cellsN n)) ∧ Below W.heap.size W w') := Lib.hid fun W hW => by
     have := size_any _ dl W W5 _ HD5.out hW (by have := (may_iffV hm).2; omega)
     rw [hsz] at this
     exact this
    have HI : Hid (∀ W, Below W5.heap.size W5 W → Calls Tryz.prog 26 #[.slice va dl.length vc, .agg #[.int .i64 ps.line, .int .i64 ps.col]] W fun e w' => e = .returned (.bool true) ∧ Below W.heap.size W w') := Lib.hid fun W hW => by
     have := is_any _ dl ps W W5 _ HD5.out hW
     rw [hi] at this
     exact this
    have HCl2 : Hid (∀ W, Below W5.heap.size W5 W → Calls Tryz.prog 25 #[.agg #[.int .i64 n.tag, .slice la n.attrs.length lc, .string ⟨n.text.toArray⟩, .slice ka n.kids.length kc]] W fun e w' => e = .returned (.int .i64 (cellsN n)) ∧ Below W.heap.size W w') := Lib.hid fun W hW => HCl.out W (below_from HX5.out hW)
    have HA2 : Hid (∀ W, Below W5.heap.size W5 W → Calls Tryz.prog 10 #[] W fun e w' => e = .returned (.bool true) ∧ Below W.heap.size W w') := Lib.hid fun W hW => HA.out W (below_from HX5.out hW)
    generalize cellsN n = cn at *
    have HAf : Hid (∀ X : World, Below W5.heap.size W5 X → X.cell? ⟨w.heap.size, 0, none⟩ = some (.int .i64 n.tag) ∧ X.cell? ⟨w.heap.size, 1, none⟩ = some (.slice la n.attrs.length lc) ∧ X.cell? ⟨w.heap.size, 2, none⟩ = some (.string ⟨n.text.toArray⟩) ∧ X.cell? ⟨w.heap.size, 3, none⟩ = some (.slice ka n.kids.length kc) ∧ X.cell? ⟨w4.heap.size, 0, none⟩ = some (.int .i64 ps.line) ∧ X.cell? ⟨w4.heap.size, 1, none⟩ = some (.int .i64 ps.col)) := Lib.hid fun X hX => by
     have h1 := heap_below (below_from HY5.out hX) HZ.out.1
     have h2 := heap_below hX HP5.out
     exact ⟨by rw [(blk h1).1 0]; rfl, by rw [(blk h1).1 1]; rfl, by rw [(blk h1).1 2]; rfl, by rw [(blk h1).1 3]; rfl, by rw [(blk h2).1 0]; rfl, by rw [(blk h2).1 1]; rfl⟩
    clear hl3 hm hsz hi HCl HA
    go_upto_region 7 with fail
    have hd : Below W5.heap.size W5 W5.drew := (Below.refl _ _).drew
    refine wp_region_T (fun X => X.cell? ⟨w.heap.size, 0, none⟩ = some (.int .i64 n.tag) ∧ X.cell? ⟨w.heap.size, 1, none⟩ = some (.slice la n.attrs.length lc) ∧ X.cell? ⟨w.heap.size, 2, none⟩ = some (.string ⟨n.text.toArray⟩) ∧ X.cell? ⟨w.heap.size, 3, none⟩ = some (.slice ka n.kids.length kc) ∧ X.cell? ⟨w4.heap.size, 0, none⟩ = some (.int .i64 ps.line) ∧ X.cell? ⟨w4.heap.size, 1, none⟩ = some (.int .i64 ps.col)) (fun _ => True) 19 (by kernel_rfl) ?_
    refine anyT_takeA (i := 0) (v := ?_) (by simp only [qA, qS, qZ]; rfl) (by kernel_rfl) (by kernel_rfl) (by kernel_rfl) (by kernel_rfl) (fun _ _ _ h => h) (Or.inl ⟨by rfl, ?_⟩) (HAf.out _ hd) (Or.inr trivial) ?_
    rotate_left 1
    ·intro w hSw; (try dsimp only at hSw); go_simp; (first | done | with_reducible rfl)
    try simp only [Act.put, qI, qX, qY]
    refine anyT_takeA (i := 1) (v := ?_) (by simp only [qA, qS, qZ]; rfl) (by kernel_rfl) (by kernel_rfl) (by kernel_rfl) (by kernel_rfl) (fun _ _ _ h => h) (Or.inl ⟨by rfl, ?_⟩) (HAf.out _ hd) (Or.inr trivial) ?_
    rotate_left 1
    ·intro w hSw; (try dsimp only at hSw); go_simp; (first | done | with_reducible rfl)
    try simp only [Act.put, qI, qX, qY]
    refine anyT_takeA (i := 2) (v := ?_) (by simp only [qA, qS, qZ]; rfl) (by kernel_rfl) (by kernel_rfl) (by kernel_rfl) (by kernel_rfl) (fun _ _ _ h => h) (Or.inl ⟨by rfl, ?_⟩) (HAf.out _ hd) (Or.inr trivial) ?_
    rotate_left 1
    ·intro w hSw; (try dsimp only at hSw); go_simp; (first | done | with_reducible rfl)
    try simp only [Act.put, qI, qX, qY]
    refine anyT_takeA (i := 3) (v := ?_) (by simp only [qA, qS, qZ]; rfl) (by kernel_rfl) (by kernel_rfl) (by kernel_rfl) (by kernel_rfl) (fun _ _ _ h => h) (Or.inl ⟨by rfl, ?_⟩) (HAf.out _ hd) (Or.inr trivial) ?_
    rotate_left 1
    ·intro w hSw; (try dsimp only at hSw); go_simp; (first | done | with_reducible rfl)
    try simp only [Act.put, qI, qX, qY]
    refine anyT_ready (rs := [4]) (by kernel_rfl) (by simp) ?_
    refine AllReadyT.cons (by simp only [qA, qS, qZ]; rfl) (fun K hK => ?_) AllReadyT.nil
    go_simp
    refine (HM.out _ hd).mono ?_
    rintro e y1 ⟨rfl, hbby1⟩
    have hxy1 := below_from hd hbby1
    refine hK.out _ _ (HAf.out _ hxy1) (Or.inr trivial) ?_
    clear hK K
    try simp only [Act.put, qI, qX, qY]
    refine anyT_takeA (i := 5) (v := ?_) (by simp only [qA, qS, qZ]; rfl) (by kernel_rfl) (by kernel_rfl) (by kernel_rfl) (by kernel_rfl) (fun _ _ _ h => h) (Or.inl ⟨by rfl, ?_⟩) (HAf.out _ hxy1) (Or.inr trivial) ?_
    rotate_left 1
    ·intro w hSw; (try dsimp only at hSw); go_simp; (first | done | with_reducible rfl)
    try simp only [Act.put, qI, qX, qY]
    refine anyT_takeA (i := 6) (v := ?_) (by simp only [qA, qS, qZ]; rfl) (by kernel_rfl) (by kernel_rfl) (by kernel_rfl) (by kernel_rfl) (fun _ _ _ h => h) (Or.inl ⟨by rfl, ?_⟩) (HAf.out _ hxy1) (Or.inr trivial) ?_
    rotate_left 1
    ·intro w hSw; (try dsimp only at hSw); go_simp; (first | done | with_reducible rfl)
    try simp only [Act.put, qI, qX, qY]
    refine anyT_takeA (i := 7) (v := ?_) (by simp only [qA, qS, qZ]; rfl) (by kernel_rfl) (by kernel_rfl) (by kernel_rfl) (by kernel_rfl) (fun _ _ _ h => h) (Or.inl ⟨by rfl, ?_⟩) (HAf.out _ hxy1) (Or.inr trivial) ?_
    rotate_left 1
    ·intro w hSw; (try dsimp only at hSw); go_simp; (first | done | with_reducible rfl)
    try simp only [Act.put, qI, qX, qY]
    refine anyT_takeA (i := 9) (v := ?_) (by simp only [qA, qS, qZ]; rfl) (by kernel_rfl) (by kernel_rfl) (by kernel_rfl) (by kernel_rfl) (fun _ _ _ h => h) (Or.inl ⟨by rfl, ?_⟩) (HAf.out _ hxy1) (Or.inr trivial) ?_
    rotate_left 1
    ·intro w hSw; (try dsimp only at hSw); go_simp; (first | done | with_reducible rfl)
    try simp only [Act.put, qI, qX, qY]
    refine anyT_ready (rs := [8]) (by kernel_rfl) (by simp) ?_
    refine AllReadyT.cons (by simp only [qA, qS, qZ]; rfl) (fun K hK => ?_) AllReadyT.nil
    go_simp
    refine (HS.out _ hxy1).mono ?_
    rintro e y2 ⟨rfl, hbby2⟩
    have hxy2 := below_from hxy1 hbby2
    refine hK.out _ _ (HAf.out _ hxy2) (Or.inr trivial) ?_
    clear hK K
    try simp only [Act.put, qI, qX, qY]
    refine anyT_ready (rs := [10]) (by kernel_rfl) (by simp) ?_
    refine AllReadyT.cons (by simp only [qA, qS, qZ]; rfl) (fun K hK => ?_) AllReadyT.nil
    go_simp
    refine (HCl2.out _ hxy2).mono ?_
    rintro e y3 ⟨rfl, hbby3⟩
    have hxy3 := below_from hxy2 hbby3
    refine hK.out _ _ (HAf.out _ hxy3) (Or.inr trivial) ?_
    clear hK K
    try simp only [Act.put, qI, qX, qY]
    refine anyT_takeA (i := 11) (v := ?_) (by simp only [qA, qS, qZ]; rfl) (by kernel_rfl) (by kernel_rfl) (by kernel_rfl) (by kernel_rfl) (fun _ _ _ h => h) (Or.inl ⟨by rfl, ?_⟩) (HAf.out _ hxy3) (Or.inr trivial) ?_
    rotate_left 1
    ·intro w hSw; (try dsimp only at hSw); go_simp; (first | done | with_reducible rfl)
    try simp only [Act.put, qI, qX, qY]
    refine anyT_takeA (i := 12) (v := ?_) (by simp only [qA, qS, qZ]; rfl) (by kernel_rfl) (by kernel_rfl) (by kernel_rfl) (by kernel_rfl) (fun _ _ _ h => h) (Or.inl ⟨by rfl, ?_⟩) (HAf.out _ hxy3) (Or.inr trivial) ?_
    rotate_left 1
    ·intro w hSw; (try dsimp only at hSw); go_simp; (first | done | with_reducible rfl)
    try simp only [Act.put, qI, qX, qY]
    refine anyT_takeA (i := 13) (v := ?_) (by simp only [qA, qS, qZ]; rfl) (by kernel_rfl) (by kernel_rfl) (by kernel_rfl) (by kernel_rfl) (fun _ _ _ h => h) (Or.inl ⟨by rfl, ?_⟩) (HAf.out _ hxy3) (Or.inr trivial) ?_
    rotate_left 1
    ·intro w hSw; (try dsimp only at hSw); go_simp; (first | done | with_reducible rfl)
    try simp only [Act.put, qI, qX, qY]
    refine anyT_takeA (i := 14) (v := ?_) (by simp only [qA, qS, qZ]; rfl) (by kernel_rfl) (by kernel_rfl) (by kernel_rfl) (by kernel_rfl) (fun _ _ _ h => h) (Or.inl ⟨by rfl, ?_⟩) (HAf.out _ hxy3) (Or.inr trivial) ?_
    rotate_left 1
    ·intro w hSw; (try dsimp only at hSw); go_simp; (first | done | with_reducible rfl)
    try simp only [Act.put, qI, qX, qY]
    refine anyT_takeA (i := 15) (v := ?_) (by simp only [qA, qS, qZ]; rfl) (by kernel_rfl) (by kernel_rfl) (by kernel_rfl) (by kernel_rfl) (fun _ _ _ h => h) (Or.inl ⟨by rfl, ?_⟩) (HAf.out _ hxy3) (Or.inr trivial) ?_
    rotate_left 1
    ·intro w hSw; (try dsimp only at hSw); go_simp; (first | done | with_reducible rfl)
    try simp only [Act.put, qI, qX, qY]
    refine anyT_ready (rs := [16]) (by kernel_rfl) (by simp) ?_
    refine AllReadyT.cons (by simp only [qA, qS, qZ]; rfl) (fun K hK => ?_) AllReadyT.nil
    go_simp
    refine (HI.out _ hxy3).mono ?_
    rintro e y4 ⟨rfl, hbby4⟩
    have hxy4 := below_from hxy3 hbby4
    refine hK.out _ _ (HAf.out _ hxy4) (Or.inr trivial) ?_
    clear hK K
    try simp only [Act.put, qI, qX, qY]
    refine anyT_takeA (i := 17) (v := ?_) (by simp only [qA, qS, qZ]; rfl) (by kernel_rfl) (by kernel_rfl) (by kernel_rfl) (by kernel_rfl) (fun _ _ _ h => h) (Or.inl ⟨by rfl, ?_⟩) (HAf.out _ hxy4) (Or.inr trivial) ?_
    rotate_left 1
    ·intro w hSw; (try dsimp only at hSw); go_simp; (first | done | with_reducible rfl)
    try simp only [Act.put, qI, qX, qY]
    refine anyT_takeA (i := 18) (v := ?_) (by simp only [qA, qS, qZ]; rfl) (by kernel_rfl) (by kernel_rfl) (by kernel_rfl) (by kernel_rfl) (fun _ _ _ h => h) (Or.inl ⟨by rfl, ?_⟩) (HAf.out _ hxy4) (Or.inr trivial) ?_
    rotate_left 1
    ·intro w hSw; (try dsimp only at hSw); go_simp; (first | done | with_reducible rfl)
    try simp only [Act.put, qI, qX, qY]
    refine anyT_ready (rs := [19]) (by kernel_rfl) (by simp) ?_
    refine AllReadyT.cons (by simp only [qA, qS, qZ]; rfl) (fun K hK => ?_) AllReadyT.nil
    go_simp
    refine (HA2.out _ hxy4).mono ?_
    rintro e y5 ⟨rfl, hbby5⟩
    have hxy5 := below_from hxy4 hbby5
    refine hK.out _ _ (HAf.out _ hxy5) (Or.inl (by rfl)) ?_
    clear hK K
    try simp only [Act.put, qI, qX, qY]
    refine anyT_takeA (i := 20) (v := ?_) (by simp only [qA, qS, qZ]; rfl) (by kernel_rfl) (by kernel_rfl) (by kernel_rfl) (by kernel_rfl) (fun _ _ _ h => h) (Or.inl ⟨by rfl, ?_⟩) (HAf.out _ hxy5) (Or.inl (by rfl)) ?_
    rotate_left 1
    ·intro w hSw; (try dsimp only at hSw); go_simp; (first | done | with_reducible rfl)
    try simp only [Act.put, qI, qX, qY]
    refine anyT_takeA (i := 21) (v := ?_) (by simp only [qA, qS, qZ]; rfl) (by kernel_rfl) (by kernel_rfl) (by kernel_rfl) (by kernel_rfl) (fun _ _ _ h => h) (Or.inl ⟨by rfl, ?_⟩) (HAf.out _ hxy5) (Or.inl (by rfl)) ?_
    rotate_left 1
    ·intro w hSw; (try dsimp only at hSw); go_simp; (first | done | with_reducible rfl)
    try simp only [Act.put, qI, qX, qY]
    refine anyT_done (by kernel_rfl) ?_ _
    refine NoPanic.normal ?_
    go_wp2_with fail
    go_ret
    exact ⟨rfl, below_from HX5.out hxy5⟩
   ·clear hl3 HCl HD5
    go_wp2_with (go_at_call 10; refine (HA.out _ HX5.out).mono ?_; rintro e w7 ⟨rfl, hb7⟩)
    go_ret
    exact ⟨rfl, below_from HX5.out hb7⟩
 ·go_wp2_with (first
   | (go_at_call 9; rw [HW1.out]; refine (HH.out _ HB.out).mono ?_; rintro e w2 ⟨rfl, hb2⟩; have hx2 := below_from HB.out hb2)
   | (go_at_call 10; refine (HA.out _ hx2).mono ?_; rintro e w3 ⟨rfl, hb3⟩))
  go_ret
  exact ⟨rfl, below_from hx2 hb3⟩
end Go.Proofs.YtjpgffihafknlaaGreatDoor
