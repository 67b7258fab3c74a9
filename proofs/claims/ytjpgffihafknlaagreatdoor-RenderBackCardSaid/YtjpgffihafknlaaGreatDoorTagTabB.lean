/- The walks of render.styled, Row. -/
import Derived.Test.YtjpgffihafknlaaGreatDoorRenRowWB
import Derived.Test.YtjpgffihafknlaaGreatDoorRenAlikeB
import Derived.Test.YtjpgffihafknlaaGreatDoorCharsTextB
set_option linter.unusedVariables false
set_option linter.unusedSimpArgs false
namespace Go.Proofs.YtjpgffihafknlaaGreatDoor
open Go.RowKit
open Go.Proofs.Qw
attribute [local go_sem] Oper.semAt_some
set_option maxHeartbeats 1000000 in
theorem styled_16 (v : Value) (l : List Cel) (w w0 : World) (S : Nat → Prop) (hv : CelsR false w0 S v l) (h0 : Below w0.heap.size w0 w) (hlen : l.length ≤ 6000) :
  Calls Tryz.prog 136 #[v, .int .i64 16] w fun e w' => ∃ v', e = .returned v' ∧ NodsR true 1 w' (fun b => w.heap.size ≤ b) v' (gr (bitsK 0) l) ∧ Below w.heap.size w w' := by
 have HC : Hid (∀ X, Below w.heap.size w X → Calls Tryz.prog 148 #[v] X fun e w' => ∃ v', e = .returned v' ∧ NodsR true 1 w' (fun b => X.heap.size ≤ b) v' (gr (bitsK 0) l) ∧ Below X.heap.size X w') := Lib.hid fun X hX => leaves_any v l X w0 S hv (below_from h0 hX) (by omega)
 obtain ⟨va, vc, rfl⟩ := hv.slice
 have hba : Below w.heap.size w (w.alloc (.cells #[.int .i64 16] 3)) := (Below.refl _ _).alloc (Nat.le_refl _) _
 clear hv h0
 go_enter Tryz.func136, Tryz.ntmps136
 go_wp2_with (go_at_call 148; refine (HC.out _ hba).mono ?_; rintro e w2 ⟨v', rfl, hv', hb'⟩; have HV := Lib.hid hv'; have HB := Lib.hid hb'; clear hv' hb')
 go_ret
 exact ⟨_, rfl, SliceR.stable (rdNod_stable _ _) HV.out (Keeps.refl _ _) (fun b h _ => Nat.le_trans hba.size h), below_from hba HB.out⟩
set_option maxRecDepth 200000 in
set_option maxHeartbeats 8000000 in
theorem styled_8 (HSt : ∀ (v : Value) (l : List Cel) (w w0 : World) (S : Nat → Prop), CelsR false w0 S v l → Below w0.heap.size w0 w → l.length ≤ 6000 →
  Calls Tryz.prog 136 #[v, .int .i64 16] w fun e w' => ∃ v', e = .returned v' ∧ NodsR true 1 w' (fun b => w.heap.size ≤ b) v' (gr (bitsK 0) l) ∧ Below w.heap.size w w')
  (v : Value) (l : List Cel) (w w0 : World) (S : Nat → Prop) (hv : CelsR false w0 S v l) (h0 : Below w0.heap.size w0 w) (hlen : l.length ≤ 6000) :
  Calls Tryz.prog 136 #[v, .int .i64 8] w fun e w' => ∃ v', e = .returned v' ∧ NodsR true 6 w' (fun b => w.heap.size ≤ b) v' (gr (bitsK (0 + 1)) l) ∧ Below w.heap.size w w' := by
 have hw := SliceR.below (rdOf_stable _) hv h0
 obtain ⟨va, vc, rfl⟩ := hv.slice
 have HV := Lib.hid hw
 have HSt := Lib.hid HSt
 clear hv hw
 refine (callsIn_wide (n := 6)).1 ?_
 refine callsIn_of_wp_marks Tryz.func136 rfl trivial ?_ rfl
 simp only [Tryz.ntmps136, List.size_toArray, List.length_cons, List.length_nil, Nat.reduceAdd, Nat.reduceSub, Array.replicate_succ, Array.replicate_zero, List.push_toArray, List.append_toArray, List.nil_append, List.cons_append]
 have hwf : ∀ f, Fence.wide.fn f := fun _ => trivial
 have hwd : Fence.wide.depth = none := rfl
 gi_wp2_with (gi_at_call 133; refine (callsIn_wide.2 (partsC_any _ _ _ _ _ _)).mono ?_; rintro e w5 ⟨rfl, rfl⟩)
 obtain ⟨w1, hw1⟩ : ∃ w1, w.alloc (.cells #[.int .i64 8] 3) = w1 := ⟨_, rfl⟩
 rw [hw1]
 obtain ⟨w6, hw6⟩ : ∃ w6, ((w1.alloc (.cells #[.slice none 0 0] 23)).alloc (.cells #[.slice va l.length vc] 35)).alloc (.cells #[.func (.func 149) #[] #[.pointer (some ⟨w.heap.size, 0, none⟩)]] 159) = w6 := ⟨_, rfl⟩
 rw [hw6]
 have hz1 : w1.heap.size = w.heap.size + 1 := by rw [← hw1]; simp
 have HBW : Hid (Below w.heap.size w w1) := Lib.hid (hw1 ▸ (Below.refl _ _).alloc (Nat.le_refl _) _)
 have HBB : Hid (w1.heap[w.heap.size]? = some (.cells #[.int .i64 8] 3)) := Lib.hid (hw1 ▸ heap_new _ _ rfl)
 have hb6 : Below w1.heap.size w1 w6 := hw6 ▸ (((Below.refl _ _).alloc (Nat.le_refl _) _).alloc (by simp) _).alloc (by simp; omega) _
 have hz6 : w6.heap.size = w1.heap.size + 3 := by rw [← hw6]; simp
 have m0 : w6.heap[w.heap.size + 1]? = some (.cells #[.slice none 0 0] 23) := hw6 ▸ heap_old _ _ (heap_old _ _ (heap_new _ _ (by omega)))
 have n0 : w6.heap[w.heap.size + 1 + 1]? = some (.cells #[.slice va l.length vc] 35) := hw6 ▸ heap_old _ _ (heap_new _ _ (by simp; omega))
 have n1 : w6.heap[w.heap.size + 1 + 1 + 1]? = some (.cells #[.func (.func 149) #[] #[.pointer (some ⟨w.heap.size, 0, none⟩)]] 159) := hw6 ▸ heap_new _ _ (by simp; omega)
 have hPL : PL (d := l) 6 (fun p : List Cel => wrapO (lvBit 3 (p.headD default)) (gr (bitsK 0) p)) w1 (w.heap.size + 1) w6.heap.size [] w6 := ⟨_, m0, RwX.nil _ _ _ _ _, .inl rfl, hb6, Nat.le_refl _⟩
 have N0 := Lib.hid (And.intro n0 n1)
 have hZB : w.heap.size + 1 < w6.heap.size := by omega
 have HZ6 := Lib.hid (And.intro hz6 hz1)
 have hB1 : w1.heap.size ≤ w.heap.size + 1 := by omega
 have hB2 : w.heap.size + 1 < w.heap.size + 1 + 1 := Nat.lt_succ_self _
 have hB3 := hZB
 have hwZ := hb6.size
 have hww := HBW.out.size
 clear hw6 m0 n0 n1 hz6 hw1 hz1
 refine rangeFunc_slotB rfl (by omega) (gf := 147) (lb := #[.pointer (some ⟨w.heap.size + 1 + 1, 0, none⟩), .pointer (some ⟨w.heap.size + 1 + 1 + 1, 0, none⟩)]) rfl trivial (enters_of Tryz.func147 (by kernel_rfl) rfl)
  (encs := partEnc (d := l) va vc 3) (n₀ := w1.heap.size) (base := w.heap.size + 1 + 1) (top := w6.heap.size) (S := fun ys => ys.map (fun y => cutP l y.1) = partsBy (bitR 3) l) (Sp := fun _ => True) (N := l.length) (w0 := w6) ?seq hb6.size (Below.refl _ _) (fun _ => rfl)
  (PL 6 (fun p : List Cel => wrapO (lvBit 3 (p.headD default)) (gr (bitsK 0) p)) w1 (w.heap.size + 1) w6.heap.size) (pl_own hb6.size) hPL ?act ?assign ?body ?done
 case seq =>
  intro l' J Jx W hW hJ _ hY h0
  exact parts1_styled 5 l' (w.heap.size + 1 + 1) (w.heap.size + 1 + 1 + 1) (w.heap.size + 1 + 1) w6.heap.size w.heap.size va vc l (bitR 3) S J Jx w1 W (HV.out.below (rdOf_stable _) HBW.out) (hb6.trans (hW.mono hb6.size)) (fun X hX x y => al_bit x y w.heap.size 3 (by omega) X (heap_below hX HBB.out)) ⟨by omega, by omega⟩ (by have := HZ6.out; omega) (heap_below hW N0.out.1) (heap_below hW N0.out.2) (by omega) hJ hY h0
 case assign =>
  intro l' pre x W K hI hK
  rw [show partEnc va vc 3 x = #[partV va vc 3 x.1] from rfl]
  gi_wp2
  exact hK
 case body =>
  intro l' pre x W hI hlt
  obtain ⟨v0, hD, hRW, hne, hb, hzW⟩ := hI
  have hpr := part_cels HV.out x
  have hpn := cut_ne x
  have hpz := cut_len x
  obtain ⟨P, hP⟩ : ∃ P, cutP l x.1 = P := ⟨_, rfl⟩
  have HT : Hid ((pre ++ [x]).flatMap (fun y => (fun p : List Cel => wrapO (lvBit 3 (p.headD default)) (gr (bitsK 0) p)) (cutP l y.1)) = pre.flatMap (fun y => (fun p : List Cel => wrapO (lvBit 3 (p.headD default)) (gr (bitsK 0) p)) (cutP l y.1)) ++ (fun p : List Cel => wrapO (lvBit 3 (p.headD default)) (gr (bitsK 0) p)) P) := Lib.hid (by rw [List.flatMap_append, ← hP]; simp)
  rw [hP] at hpr hpn hpz
  obtain ⟨pa, pc, hpe, hpl, hpm, hpx⟩ := cels_shape hpr
  rw [hpe]
  rw [hpe] at hpr
  obtain ⟨c, P', rfl⟩ : ∃ c P', P = c :: P' := by cases P with | nil => exact absurd rfl hpn | cons c P' => exact ⟨c, P', rfl⟩
  obtain ⟨bb, oo, e, hbz, c0, c1, c2⟩ := hpx 0 c rfl
  subst e
  simp only [Nat.zero_mul, Nat.add_zero] at c0 c1 c2
  obtain ⟨xs, hxs⟩ : ∃ xs, pre.flatMap (fun y : PartX l => (fun p : List Cel => wrapO (lvBit 3 (p.headD default)) (gr (bitsK 0) p)) (cutP l y.1)) = xs := ⟨_, rfl⟩
  have hxl0 : xs.length ≤ pre.length * 6000 := by
   rw [← hxs]
   exact flat_le_all _ 6000 pre (fun y => Nat.le_trans ((fun y => wrapO_len _ (cut_ne y) (gr_len _ _)) y) (Nat.le_trans (cut_len y) hlen))
  have hxl1 : pre.length * 6000 ≤ 6000 * 6000 := Nat.mul_le_mul_right _ (by omega)
  have hxl2 : xs.length ≤ 36000000 := by omega
  clear hxl1
  rw [hxs] at hRW hne HT
  have HRB := Lib.hid (rowx_block hRW hne)
  obtain ⟨sv, sc, hv0⟩ := hRW.slice
  subst hv0
  have HRW : Hid (∀ X, Below W.heap.size W X → RwX 25 4 (rdNod true 6) X w6.heap.size (.slice sv xs.length sc) xs) := Lib.hid fun X hX => RwX.below (rdNod_stable _ _) hRW (.all (by exact ⟨hX.os, hX.tape, hX.output, hX.size, fun b hz => hX.block b hz⟩))
  have HBO : Hid (∀ X, Below W.heap.size W X → X.heap[w.heap.size + 1]? = some (.cells #[.slice sv xs.length sc] 23)) := Lib.hid fun X hX => heap_below hX hD
  have HNE := Lib.hid hne
  have HIN := Lib.hid (And.intro hb hzW)
  have HPR := Lib.hid hpr
  obtain ⟨q0, g0⟩ := blk hD
  have i0 : (0 : Int) < (((c :: P').length : Nat) : Int) := by simp only [List.length_cons]; omega
  have hb0 : Below W.heap.size W W.drew := (Below.refl _ _).drew
  clear hpx hP hpn hRW hne hxs hxl0 hpr
  have HT : Hid ((pre ++ [x]).flatMap (fun y => wrapO (lvBit 3 ((cutP l y.1).headD default)) (gr (bitsK 0) (cutP l y.1))) = xs ++ wrapO (lvBit 3 c) (gr (bitsK 0) (c :: P'))) := HT
  have hgl := gr_len (bitsK 0) (c :: P')
  have hwl := wrapO_len (lvBit 3 c) (p := c :: P') (by simp) hgl
  have HGN : Hid (wrapO (lvBit 3 c) (gr (bitsK 0) (c :: P')) ≠ []) := Lib.hid (wrapO_ne (gr_ne _ (by simp)))
  have hgf := gr_fit (bitsK 0) (c :: P') (by omega) (bitsK_fit 0)
  have HS : Hid (∀ X, Below W.heap.size W X → Calls Tryz.prog 136 #[.slice (some ⟨bb, oo, none⟩) (c :: P').length pc, .int .i64 16] X fun e X' => ∃ sa sc, e = .returned (.slice sa (gr (bitsK 0) (c :: P')).length sc) ∧ NodsR true 1 X' (fun b => X.heap.size ≤ b) (.slice sa (gr (bitsK 0) (c :: P')).length sc) (gr (bitsK 0) (c :: P')) ∧ Below X.heap.size X X') := Lib.hid fun X hX => by
   refine (HSt.out _ _ X w S HPR.out (HBW.out.trans ((hb.trans (hX.mono hb.size)).mono hww)) (by omega)).mono ?_
   rintro e X' ⟨v', h1, h2, h3⟩
   obtain ⟨sa, sc, rfl⟩ := h2.slice
   exact ⟨sa, sc, h1, h2, h3⟩
  have HWr : Hid (∀ X X0 sa sc, NodsR true 1 X (fun b => X0 ≤ b) (.slice sa (gr (bitsK 0) (c :: P')).length sc) (gr (bitsK 0) (c :: P')) → Calls Tryz.prog 135 #[.int .i64 (bits .and .i64 c.bits 8), .string ⟨#[]⟩, .slice sa (gr (bitsK 0) (c :: P')).length sc] X fun e X' => ∃ sa sc, e = .returned (.slice sa (wrapO (lvBit 3 c) (gr (bitsK 0) (c :: P'))).length sc) ∧ NodsR true 6 X' (fun b => X.heap.size ≤ b) (.slice sa (wrapO (lvBit 3 c) (gr (bitsK 0) (c :: P'))).length sc) (wrapO (lvBit 3 c) (gr (bitsK 0) (c :: P'))) ∧ Below X.heap.size X X') := Lib.hid fun X X0 sa sc hk => by
   refine (wrap_high 1 (bits .and .i64 c.bits 8) [] _ _ true X X _ hk (Below.refl _ _) (by omega) hgf).mono ?_
   rintro e X' ⟨v', h', h1, h2, h3, h4⟩
   have ew : wrapN (bits .and .i64 c.bits 8) [] (gr (bitsK 0) (c :: P')) = wrapO (lvBit 3 c) (gr (bitsK 0) (c :: P')) := wrap_bit 3 (by omega) c _
   rw [ew] at h2
   have h2 := nods_mono' h4 h2
   obtain ⟨sa, sc, rfl⟩ := h2.slice
   exact ⟨sa, sc, h1, h2, h3⟩
  have hxl : xs.length + (wrapO (lvBit 3 c) (gr (bitsK 0) (c :: P'))).length ≤ 100000000 := by omega
  have HAA : Hid (∀ X, Below w1.heap.size w1 X → X.cell? ⟨bb, oo + 1, none⟩ = some (.int .i64 c.bits) ∧ X.cell? ⟨w.heap.size, 0, none⟩ = some (.int .i64 8)) := Lib.hid fun X hX => ⟨(hX.cell (p := ⟨bb, oo + 1, none⟩) (by show bb < w1.heap.size; omega)).trans ((HBW.out.cell (p := ⟨bb, oo + 1, none⟩) hbz).trans c1), by rw [(blk (heap_below hX HBB.out)).1 0]; rfl⟩
  have HAX : Hid (∀ X, Below W.heap.size W X → X.cell? ⟨bb, oo + 1, none⟩ = some (.int .i64 c.bits) ∧ X.cell? ⟨w.heap.size, 0, none⟩ = some (.int .i64 8)) := Lib.hid fun X hX => HAA.out X (hb.trans (hX.mono hb.size))
  have HAY : Hid (∀ X, Below W.heap.size W X → ∀ Y, (X.cell? ⟨bb, oo + 1, none⟩ = some (.int .i64 c.bits) ∧ X.cell? ⟨w.heap.size, 0, none⟩ = some (.int .i64 8)) → Below w6.heap.size X Y → Y.cell? ⟨bb, oo + 1, none⟩ = some (.int .i64 c.bits) ∧ Y.cell? ⟨w.heap.size, 0, none⟩ = some (.int .i64 8)) := Lib.hid fun X hX Y h hY => ⟨(hY.cell (p := ⟨bb, oo + 1, none⟩) (by show bb < w6.heap.size; omega)).trans h.1, (hY.cell (p := ⟨w.heap.size, 0, none⟩) (by show w.heap.size < w6.heap.size; omega)).trans h.2⟩
  have hbo : w.heap.size + 1 ≠ bb := by omega
  have hbo2 : w.heap.size + 1 ≠ w.heap.size := by omega
  generalize gr (bitsK 0) (c :: P') = G0 at *
  generalize hGG : wrapO (lvBit 3 c) G0 = G at *
  clear hgl hwl hgf hGG hb HV
  gi_wp2_with fail
  refine wpIn_region_T (fun w' => w'.cell? ⟨bb, oo + 1, none⟩ = some (.int .i64 c.bits) ∧ w'.cell? ⟨w.heap.size, 0, none⟩ = some (.int .i64 8)) (fun w' => w'.cell? ⟨w.heap.size + 1, 0, none⟩ = some (.slice sv xs.length sc)) 13 (by kernel_rfl) (by kernel_rfl) (fun R hR => ?_)
  refine anyT_takeA (i := 1) (v := ?_) (by simp only [qA, qS, qZ]; rfl) (by kernel_rfl) (by kernel_rfl) (by kernel_rfl) (by kernel_rfl) (fun _ _ _ h => h) (Or.inl ⟨by rfl, ?_⟩) (HAX.out _ hb0) (Or.inr (by rw [(blk (HBO.out _ hb0)).1 0]; rfl)) ?_
  rotate_left 1
  ·intro w hSw; (try dsimp only at hSw); go_simp; (first | done | with_reducible rfl)
  try simp only [Act.put, qI, qX, qY]
  refine anyT_takeA (i := 2) (v := ?_) (by simp only [qA, qS, qZ]; rfl) (by kernel_rfl) (by kernel_rfl) (by kernel_rfl) (by kernel_rfl) (fun _ _ _ h => h) (Or.inl ⟨by rfl, ?_⟩) (HAX.out _ hb0) (Or.inr (by rw [(blk (HBO.out _ hb0)).1 0]; rfl)) ?_
  rotate_left 1
  ·intro w hSw; (try dsimp only at hSw); go_simp; (first | done | with_reducible rfl)
  try simp only [Act.put, qI, qX, qY]
  refine anyT_takeA (i := 3) (v := ?_) (by simp only [qA, qS, qZ]; rfl) (by kernel_rfl) (by kernel_rfl) (by kernel_rfl) (by kernel_rfl) (fun _ _ _ h => h) (Or.inl ⟨by rfl, ?_⟩) (HAX.out _ hb0) (Or.inr (by rw [(blk (HBO.out _ hb0)).1 0]; rfl)) ?_
  rotate_left 1
  ·intro w hSw; (try dsimp only at hSw); go_simp; (first | done | with_reducible rfl)
  try simp only [Act.put, qI, qX, qY]
  refine anyT_takeA (i := 4) (v := ?_) (by simp only [qA, qS, qZ]; rfl) (by kernel_rfl) (by kernel_rfl) (by kernel_rfl) (by kernel_rfl) (fun _ _ _ h => h) (Or.inl ⟨by rfl, ?_⟩) (HAX.out _ hb0) (Or.inr (by rw [(blk (HBO.out _ hb0)).1 0]; rfl)) ?_
  rotate_left 1
  ·intro w hSw; (try dsimp only at hSw); go_simp; (first | done | with_reducible rfl)
  try simp only [Act.put, qI, qX, qY]
  refine anyT_takeA (i := 5) (v := ?_) (by simp only [qA, qS, qZ]; rfl) (by kernel_rfl) (by kernel_rfl) (by kernel_rfl) (by kernel_rfl) (fun _ _ _ h => h) (Or.inl ⟨by rfl, ?_⟩) (HAX.out _ hb0) (Or.inr (by rw [(blk (HBO.out _ hb0)).1 0]; rfl)) ?_
  rotate_left 1
  ·intro w hSw; (try dsimp only at hSw); go_simp; (first | done | with_reducible rfl)
  try simp only [Act.put, qI, qX, qY]
  refine anyT_takeA (i := 6) (v := ?_) (by simp only [qA, qS, qZ]; rfl) (by kernel_rfl) (by kernel_rfl) (by kernel_rfl) (by kernel_rfl) (fun _ _ _ h => h) (Or.inl ⟨by rfl, ?_⟩) (HAX.out _ hb0) (Or.inr (by rw [(blk (HBO.out _ hb0)).1 0]; rfl)) ?_
  rotate_left 1
  ·intro w hSw; (try dsimp only at hSw); go_simp; (first | done | with_reducible rfl)
  try simp only [Act.put, qI, qX, qY]
  refine anyT_takeA (i := 7) (v := ?_) (by simp only [qA, qS, qZ]; rfl) (by kernel_rfl) (by kernel_rfl) (by kernel_rfl) (by kernel_rfl) (fun _ _ _ h => h) (Or.inl ⟨by rfl, ?_⟩) (HAX.out _ hb0) (Or.inr (by rw [(blk (HBO.out _ hb0)).1 0]; rfl)) ?_
  rotate_left 1
  ·intro w hSw; (try dsimp only at hSw); go_simp; (first | done | with_reducible rfl)
  try simp only [Act.put, qI, qX, qY]
  refine anyT_takeA (i := 8) (v := ?_) (by simp only [qA, qS, qZ]; rfl) (by kernel_rfl) (by kernel_rfl) (by kernel_rfl) (by kernel_rfl) (fun _ _ _ h => h) (Or.inl ⟨by rfl, ?_⟩) (HAX.out _ hb0) (Or.inr (by rw [(blk (HBO.out _ hb0)).1 0]; rfl)) ?_
  rotate_left 1
  ·intro w hSw; (try dsimp only at hSw); go_simp; (first | done | with_reducible rfl)
  try simp only [Act.put, qI, qX, qY]
  refine anyT_takeA (i := 9) (v := ?_) (by simp only [qA, qS, qZ]; rfl) (by kernel_rfl) (by kernel_rfl) (by kernel_rfl) (by kernel_rfl) (fun _ _ _ h => h) (Or.inl ⟨by rfl, ?_⟩) (HAX.out _ hb0) (Or.inr (by rw [(blk (HBO.out _ hb0)).1 0]; rfl)) ?_
  rotate_left 1
  ·intro w hSw; (try dsimp only at hSw); go_simp; (first | done | with_reducible rfl)
  try simp only [Act.put, qI, qX, qY]
  refine anyT_take (i := 0) (v := ?_) (by simp only [qA, qZ]; rfl) (by kernel_rfl) (by kernel_rfl) (by kernel_rfl) (by kernel_rfl) (fun _ _ _ h => h) (Or.inl ⟨by rfl, ?_⟩) ⟨HAX.out _ hb0, by rw [(blk (HBO.out _ hb0)).1 0]; rfl⟩ ?_
  rotate_left 1
  ·intro w hSw; (try dsimp only at hSw); go_simp; (first | done | with_reducible rfl)
  try simp only [Act.put, qI, qX, qY]
  refine anyT_ready (rs := [10]) (by kernel_rfl) (by simp) ?_
  refine AllReadyT.cons (by simp only [qA, qS, qZ]; rfl) (fun K hK => ?_) AllReadyT.nil
  go_simp
  refine (HS.out _ hb0).mono ?_
  rintro e x1 ⟨sa1, sc1, rfl, hk1, hst1⟩
  have HK1 := Lib.hid hk1
  clear hk1
  have hb1 : Below W.heap.size W x1 := below_from hb0 hst1
  refine hK.out _ _ (HAX.out _ hb1) (Or.inr (by rw [(blk (HBO.out _ hb1)).1 0]; rfl)) ?_
  clear hK K
  try simp only [Act.put, qI, qX, qY]
  refine anyT_ready (rs := [11]) (by kernel_rfl) (by simp) ?_
  refine AllReadyT.cons (by simp only [qA, qS, qZ]; rfl) (fun K hK => ?_) AllReadyT.nil
  go_simp
  refine (HWr.out _ _ _ _ HK1.out).mono ?_
  rintro e x2 ⟨sa2, sc2, rfl, hk2, hst2⟩
  have HK2 := Lib.hid hk2
  clear hk2
  have hb2 : Below W.heap.size W x2 := below_from hb1 hst2
  refine hK.out _ _ (HAX.out _ hb2) (Or.inr (by rw [(blk (HBO.out _ hb2)).1 0]; rfl)) ?_
  clear hK K
  try simp only [Act.put, qI, qX, qY]
  refine anyT_ready (rs := [12]) (by kernel_rfl) (by simp) ?_
  refine AllReadyT.cons (by simp only [qA, qS, qZ]; rfl) (fun K hK => ?_) AllReadyT.nil
  have hbs3 := hb2.size
  have HRX3 := HRW.out _ hb2
  have HRY3 := HRW.out _ hb1
  have hsz3 : w6.heap.size ≤ x2.heap.size := Nat.le_trans HIN.out.2 hb2.size
  have hsy3 : w6.heap.size ≤ x1.heap.size := Nat.le_trans HIN.out.2 hb1.size
  obtain ⟨news3, hsrc3, hnews3⟩ := SliceR.src (P := Tryz.prog) (st := 23) rowNod (eltNod 6).pos (eltNod 6).ones HK2.out
  (refine step_append_X (by rfl) _ _ 23 23 (by rfl) rowNod (eltNod 6) w6.heap.size (.slice sv xs.length sc) _ (xs := xs) (ys := G) (news := news3) (by rfl) (by rfl) HRX3 hsz3 hsrc3 (news_apart (rdNod_stable _ _) HRY3 hsy3 hnews3) hxl ?_)
  intro va3 y3 hra3 hba3 hga3 _
  obtain ⟨wa3, wn3, wc3, hwe3⟩ : ∃ a n c, va3 = .slice a n c := by obtain ⟨a, c, e⟩ := hra3.slice; exact ⟨a, _, c, e⟩
  subst hwe3
  have HRA3 := Lib.hid hra3
  have HGA3 := Lib.hid hga3
  clear hra3 hga3 hsrc3 hnews3
  have hob3 : y3.heap[(w.heap.size + 1)]? = some (.cells #[.slice sv xs.length sc] 23) := (hba3.block _ (by have := hZB; have := hbs3; omega)).trans (HBO.out _ hb2)
  obtain ⟨qo3, fo3⟩ := blk hob3
  have ha3 := HAY.out _ hb2 y3 (HAX.out _ hb2) hba3
  refine hK.out _ _ (ha3) (Or.inr (by rw [qo3 0]; rfl)) ?_
  clear hK K
  try simp only [Act.put, qI, qX, qY]
  refine anyT_ready (rs := [13]) (by kernel_rfl) (by simp) ?_
  refine AllReadyT.cons (by simp only [qA, qS, qZ]; rfl) (fun K hK => ?_) AllReadyT.nil
  go_simp
  refine hK.out _ _ (⟨(setCell_block hbo).trans ha3.1, (setCell_block hbo2).trans ha3.2⟩) (Or.inl (by kernel_rfl)) ?_
  clear hK K
  try simp only [Act.put, qI, qX, qY]
  refine anyT_done (by kernel_rfl) ?_ _
  refine hR.out _ _ ?_
  have hfin := put_row (F := (fun p : List Cel => wrapO (lvBit 3 (p.headD default)) (gr (bitsK 0) p))) HIN.out.1 HIN.out.2 hB1 hB2 hB3 hwZ hb2 HRA3.out hba3 HGA3.out HRX3 HNE.out HGN.out hob3 HT.out
  gi_wp2_with fail
  exact ⟨hfin.1 _, hfin.2⟩
 case done =>
  rintro D ys W hD hys ⟨v9, t0, hR, hne, hb, hz⟩ hK
  have e : (ys.flatMap fun y : PartX l => (fun p : List Cel => wrapO (lvBit 3 (p.headD default)) (gr (bitsK 0) p)) (cutP l y.1)) = gr (bitsK (0 + 1)) l := by
   rw [gr_bit 3 0 l rfl, ← hys, List.flatMap_map]
  rw [e] at hR
  have hrow := RwX.row (rdNod_stable _ _) ((rowx_own D w6.heap.size 6 v9 (fun _ : Unit => gr (bitsK (0 + 1)) l)).putObj (s := ()) (.deferred none) hR (Nat.le_refl _) hK rfl)
  obtain ⟨s0, s0f⟩ := blk t0
  obtain ⟨va9, c9, rfl⟩ := hR.slice
  have HROW := Lib.hid hrow
  have HB9 := Lib.hid hb
  have HK9 := Lib.hid hK
  clear hR hb hK hne hrow e
  generalize (gr (bitsK (0 + 1)) l).length = n9 at *
  gi_wp2_with fail
  refine ⟨by simp, .inl ⟨_, _, rfl, run_takeDeferred HK9.out, ?_⟩⟩
  refine ⟨.slice va9 n9 c9, by simp [results, Tryz.results136, go_sem], ?_⟩
  refine ⟨_, rfl, SliceR.stable (rdNod_stable _ _) HROW.out (Keeps.refl _ _) (fun b h _ => Nat.le_trans (Nat.le_trans hww hwZ) h), ?_⟩
  exact HBW.out.trans ((HB9.out.trans (belowK_b (w := w1) (Nat.le_refl _) W D _ _ (by omega) HK9.out rfl rfl)).mono hww)
set_option maxRecDepth 200000 in
set_option maxHeartbeats 8000000 in
theorem styled_4 (HSt : ∀ (v : Value) (l : List Cel) (w w0 : World) (S : Nat → Prop), CelsR false w0 S v l → Below w0.heap.size w0 w → l.length ≤ 6000 →
  Calls Tryz.prog 136 #[v, .int .i64 8] w fun e w' => ∃ v', e = .returned v' ∧ NodsR true 6 w' (fun b => w.heap.size ≤ b) v' (gr (bitsK 1) l) ∧ Below w.heap.size w w')
  (v : Value) (l : List Cel) (w w0 : World) (S : Nat → Prop) (hv : CelsR false w0 S v l) (h0 : Below w0.heap.size w0 w) (hlen : l.length ≤ 6000) :
  Calls Tryz.prog 136 #[v, .int .i64 4] w fun e w' => ∃ v', e = .returned v' ∧ NodsR true 11 w' (fun b => w.heap.size ≤ b) v' (gr (bitsK (1 + 1)) l) ∧ Below w.heap.size w w' := by
 have hw := SliceR.below (rdOf_stable _) hv h0
 obtain ⟨va, vc, rfl⟩ := hv.slice
 have HV := Lib.hid hw
 have HSt := Lib.hid HSt
 clear hv hw
 refine (callsIn_wide (n := 6)).1 ?_
 refine callsIn_of_wp_marks Tryz.func136 rfl trivial ?_ rfl
 simp only [Tryz.ntmps136, List.size_toArray, List.length_cons, List.length_nil, Nat.reduceAdd, Nat.reduceSub, Array.replicate_succ, Array.replicate_zero, List.push_toArray, List.append_toArray, List.nil_append, List.cons_append]
 have hwf : ∀ f, Fence.wide.fn f := fun _ => trivial
 have hwd : Fence.wide.depth = none := rfl
 gi_wp2_with (gi_at_call 133; refine (callsIn_wide.2 (partsC_any _ _ _ _ _ _)).mono ?_; rintro e w5 ⟨rfl, rfl⟩)
 obtain ⟨w1, hw1⟩ : ∃ w1, w.alloc (.cells #[.int .i64 4] 3) = w1 := ⟨_, rfl⟩
 rw [hw1]
 obtain ⟨w6, hw6⟩ : ∃ w6, ((w1.alloc (.cells #[.slice none 0 0] 23)).alloc (.cells #[.slice va l.length vc] 35)).alloc (.cells #[.func (.func 149) #[] #[.pointer (some ⟨w.heap.size, 0, none⟩)]] 159) = w6 := ⟨_, rfl⟩
 rw [hw6]
 have hz1 : w1.heap.size = w.heap.size + 1 := by rw [← hw1]; simp
 have HBW : Hid (Below w.heap.size w w1) := Lib.hid (hw1 ▸ (Below.refl _ _).alloc (Nat.le_refl _) _)
 have HBB : Hid (w1.heap[w.heap.size]? = some (.cells #[.int .i64 4] 3)) := Lib.hid (hw1 ▸ heap_new _ _ rfl)
 have hb6 : Below w1.heap.size w1 w6 := hw6 ▸ (((Below.refl _ _).alloc (Nat.le_refl _) _).alloc (by simp) _).alloc (by simp; omega) _
 have hz6 : w6.heap.size = w1.heap.size + 3 := by rw [← hw6]; simp
 have m0 : w6.heap[w.heap.size + 1]? = some (.cells #[.slice none 0 0] 23) := hw6 ▸ heap_old _ _ (heap_old _ _ (heap_new _ _ (by omega)))
 have n0 : w6.heap[w.heap.size + 1 + 1]? = some (.cells #[.slice va l.length vc] 35) := hw6 ▸ heap_old _ _ (heap_new _ _ (by simp; omega))
 have n1 : w6.heap[w.heap.size + 1 + 1 + 1]? = some (.cells #[.func (.func 149) #[] #[.pointer (some ⟨w.heap.size, 0, none⟩)]] 159) := hw6 ▸ heap_new _ _ (by simp; omega)
 have hPL : PL (d := l) 11 (fun p : List Cel => wrapO (lvBit 2 (p.headD default)) (gr (bitsK 1) p)) w1 (w.heap.size + 1) w6.heap.size [] w6 := ⟨_, m0, RwX.nil _ _ _ _ _, .inl rfl, hb6, Nat.le_refl _⟩
 have N0 := Lib.hid (And.intro n0 n1)
 have hZB : w.heap.size + 1 < w6.heap.size := by omega
 have HZ6 := Lib.hid (And.intro hz6 hz1)
 have hB1 : w1.heap.size ≤ w.heap.size + 1 := by omega
 have hB2 : w.heap.size + 1 < w.heap.size + 1 + 1 := Nat.lt_succ_self _
 have hB3 := hZB
 have hwZ := hb6.size
 have hww := HBW.out.size
 clear hw6 m0 n0 n1 hz6 hw1 hz1
 refine rangeFunc_slotB rfl (by omega) (gf := 147) (lb := #[.pointer (some ⟨w.heap.size + 1 + 1, 0, none⟩), .pointer (some ⟨w.heap.size + 1 + 1 + 1, 0, none⟩)]) rfl trivial (enters_of Tryz.func147 (by kernel_rfl) rfl)
  (encs := partEnc (d := l) va vc 3) (n₀ := w1.heap.size) (base := w.heap.size + 1 + 1) (top := w6.heap.size) (S := fun ys => ys.map (fun y => cutP l y.1) = partsBy (bitR 2) l) (Sp := fun _ => True) (N := l.length) (w0 := w6) ?seq hb6.size (Below.refl _ _) (fun _ => rfl)
  (PL 11 (fun p : List Cel => wrapO (lvBit 2 (p.headD default)) (gr (bitsK 1) p)) w1 (w.heap.size + 1) w6.heap.size) (pl_own hb6.size) hPL ?act ?assign ?body ?done
 case seq =>
  intro l' J Jx W hW hJ _ hY h0
  exact parts1_styled 5 l' (w.heap.size + 1 + 1) (w.heap.size + 1 + 1 + 1) (w.heap.size + 1 + 1) w6.heap.size w.heap.size va vc l (bitR 2) S J Jx w1 W (HV.out.below (rdOf_stable _) HBW.out) (hb6.trans (hW.mono hb6.size)) (fun X hX x y => al_bit x y w.heap.size 2 (by omega) X (heap_below hX HBB.out)) ⟨by omega, by omega⟩ (by have := HZ6.out; omega) (heap_below hW N0.out.1) (heap_below hW N0.out.2) (by omega) hJ hY h0
 case assign =>
  intro l' pre x W K hI hK
  rw [show partEnc va vc 3 x = #[partV va vc 3 x.1] from rfl]
  gi_wp2
  exact hK
 case body =>
  intro l' pre x W hI hlt
  obtain ⟨v0, hD, hRW, hne, hb, hzW⟩ := hI
  have hpr := part_cels HV.out x
  have hpn := cut_ne x
  have hpz := cut_len x
  obtain ⟨P, hP⟩ : ∃ P, cutP l x.1 = P := ⟨_, rfl⟩
  have HT : Hid ((pre ++ [x]).flatMap (fun y => (fun p : List Cel => wrapO (lvBit 2 (p.headD default)) (gr (bitsK 1) p)) (cutP l y.1)) = pre.flatMap (fun y => (fun p : List Cel => wrapO (lvBit 2 (p.headD default)) (gr (bitsK 1) p)) (cutP l y.1)) ++ (fun p : List Cel => wrapO (lvBit 2 (p.headD default)) (gr (bitsK 1) p)) P) := Lib.hid (by rw [List.flatMap_append, ← hP]; simp)
  rw [hP] at hpr hpn hpz
  obtain ⟨pa, pc, hpe, hpl, hpm, hpx⟩ := cels_shape hpr
  rw [hpe]
  rw [hpe] at hpr
  obtain ⟨c, P', rfl⟩ : ∃ c P', P = c :: P' := by cases P with | nil => exact absurd rfl hpn | cons c P' => exact ⟨c, P', rfl⟩
  obtain ⟨bb, oo, e, hbz, c0, c1, c2⟩ := hpx 0 c rfl
  subst e
  simp only [Nat.zero_mul, Nat.add_zero] at c0 c1 c2
  obtain ⟨xs, hxs⟩ : ∃ xs, pre.flatMap (fun y : PartX l => (fun p : List Cel => wrapO (lvBit 2 (p.headD default)) (gr (bitsK 1) p)) (cutP l y.1)) = xs := ⟨_, rfl⟩
  have hxl0 : xs.length ≤ pre.length * 6000 := by
   rw [← hxs]
   exact flat_le_all _ 6000 pre (fun y => Nat.le_trans ((fun y => wrapO_len _ (cut_ne y) (gr_len _ _)) y) (Nat.le_trans (cut_len y) hlen))
  have hxl1 : pre.length * 6000 ≤ 6000 * 6000 := Nat.mul_le_mul_right _ (by omega)
  have hxl2 : xs.length ≤ 36000000 := by omega
  clear hxl1
  rw [hxs] at hRW hne HT
  have HRB := Lib.hid (rowx_block hRW hne)
  obtain ⟨sv, sc, hv0⟩ := hRW.slice
  subst hv0
  have HRW : Hid (∀ X, Below W.heap.size W X → RwX 25 4 (rdNod true 11) X w6.heap.size (.slice sv xs.length sc) xs) := Lib.hid fun X hX => RwX.below (rdNod_stable _ _) hRW (.all (by exact ⟨hX.os, hX.tape, hX.output, hX.size, fun b hz => hX.block b hz⟩))
  have HBO : Hid (∀ X, Below W.heap.size W X → X.heap[w.heap.size + 1]? = some (.cells #[.slice sv xs.length sc] 23)) := Lib.hid fun X hX => heap_below hX hD
  have HNE := Lib.hid hne
  have HIN := Lib.hid (And.intro hb hzW)
  have HPR := Lib.hid hpr
  obtain ⟨q0, g0⟩ := blk hD
  have i0 : (0 : Int) < (((c :: P').length : Nat) : Int) := by simp only [List.length_cons]; omega
  have hb0 : Below W.heap.size W W.drew := (Below.refl _ _).drew
  clear hpx hP hpn hRW hne hxs hxl0 hpr
  have HT : Hid ((pre ++ [x]).flatMap (fun y => wrapO (lvBit 2 ((cutP l y.1).headD default)) (gr (bitsK 1) (cutP l y.1))) = xs ++ wrapO (lvBit 2 c) (gr (bitsK 1) (c :: P'))) := HT
  have hgl := gr_len (bitsK 1) (c :: P')
  have hwl := wrapO_len (lvBit 2 c) (p := c :: P') (by simp) hgl
  have HGN : Hid (wrapO (lvBit 2 c) (gr (bitsK 1) (c :: P')) ≠ []) := Lib.hid (wrapO_ne (gr_ne _ (by simp)))
  have hgf := gr_fit (bitsK 1) (c :: P') (by omega) (bitsK_fit 1)
  have HS : Hid (∀ X, Below W.heap.size W X → Calls Tryz.prog 136 #[.slice (some ⟨bb, oo, none⟩) (c :: P').length pc, .int .i64 8] X fun e X' => ∃ sa sc, e = .returned (.slice sa (gr (bitsK 1) (c :: P')).length sc) ∧ NodsR true 6 X' (fun b => X.heap.size ≤ b) (.slice sa (gr (bitsK 1) (c :: P')).length sc) (gr (bitsK 1) (c :: P')) ∧ Below X.heap.size X X') := Lib.hid fun X hX => by
   refine (HSt.out _ _ X w S HPR.out (HBW.out.trans ((hb.trans (hX.mono hb.size)).mono hww)) (by omega)).mono ?_
   rintro e X' ⟨v', h1, h2, h3⟩
   obtain ⟨sa, sc, rfl⟩ := h2.slice
   exact ⟨sa, sc, h1, h2, h3⟩
  have HWr : Hid (∀ X X0 sa sc, NodsR true 6 X (fun b => X0 ≤ b) (.slice sa (gr (bitsK 1) (c :: P')).length sc) (gr (bitsK 1) (c :: P')) → Calls Tryz.prog 135 #[.int .i64 (bits .and .i64 c.bits 4), .string ⟨#[]⟩, .slice sa (gr (bitsK 1) (c :: P')).length sc] X fun e X' => ∃ sa sc, e = .returned (.slice sa (wrapO (lvBit 2 c) (gr (bitsK 1) (c :: P'))).length sc) ∧ NodsR true 11 X' (fun b => X.heap.size ≤ b) (.slice sa (wrapO (lvBit 2 c) (gr (bitsK 1) (c :: P'))).length sc) (wrapO (lvBit 2 c) (gr (bitsK 1) (c :: P'))) ∧ Below X.heap.size X X') := Lib.hid fun X X0 sa sc hk => by
   refine (wrap_high 6 (bits .and .i64 c.bits 4) [] _ _ true X X _ hk (Below.refl _ _) (by omega) hgf).mono ?_
   rintro e X' ⟨v', h', h1, h2, h3, h4⟩
   have ew : wrapN (bits .and .i64 c.bits 4) [] (gr (bitsK 1) (c :: P')) = wrapO (lvBit 2 c) (gr (bitsK 1) (c :: P')) := wrap_bit 2 (by omega) c _
   rw [ew] at h2
   have h2 := nods_mono' h4 h2
   obtain ⟨sa, sc, rfl⟩ := h2.slice
   exact ⟨sa, sc, h1, h2, h3⟩
  have hxl : xs.length + (wrapO (lvBit 2 c) (gr (bitsK 1) (c :: P'))).length ≤ 100000000 := by omega
  have HAA : Hid (∀ X, Below w1.heap.size w1 X → X.cell? ⟨bb, oo + 1, none⟩ = some (.int .i64 c.bits) ∧ X.cell? ⟨w.heap.size, 0, none⟩ = some (.int .i64 4)) := Lib.hid fun X hX => ⟨(hX.cell (p := ⟨bb, oo + 1, none⟩) (by show bb < w1.heap.size; omega)).trans ((HBW.out.cell (p := ⟨bb, oo + 1, none⟩) hbz).trans c1), by rw [(blk (heap_below hX HBB.out)).1 0]; rfl⟩
  have HAX : Hid (∀ X, Below W.heap.size W X → X.cell? ⟨bb, oo + 1, none⟩ = some (.int .i64 c.bits) ∧ X.cell? ⟨w.heap.size, 0, none⟩ = some (.int .i64 4)) := Lib.hid fun X hX => HAA.out X (hb.trans (hX.mono hb.size))
  have HAY : Hid (∀ X, Below W.heap.size W X → ∀ Y, (X.cell? ⟨bb, oo + 1, none⟩ = some (.int .i64 c.bits) ∧ X.cell? ⟨w.heap.size, 0, none⟩ = some (.int .i64 4)) → Below w6.heap.size X Y → Y.cell? ⟨bb, oo + 1, none⟩ = some (.int .i64 c.bits) ∧ Y.cell? ⟨w.heap.size, 0, none⟩ = some (.int .i64 4)) := Lib.hid fun X hX Y h hY => ⟨(hY.cell (p := ⟨bb, oo + 1, none⟩) (by show bb < w6.heap.size; omega)).trans h.1, (hY.cell (p := ⟨w.heap.size, 0, none⟩) (by show w.heap.size < w6.heap.size; omega)).trans h.2⟩
  have hbo : w.heap.size + 1 ≠ bb := by omega
  have hbo2 : w.heap.size + 1 ≠ w.heap.size := by omega
  generalize gr (bitsK 1) (c :: P') = G0 at *
  generalize hGG : wrapO (lvBit 2 c) G0 = G at *
  clear hgl hwl hgf hGG hb HV
  gi_wp2_with fail
  refine wpIn_region_T (fun w' => w'.cell? ⟨bb, oo + 1, none⟩ = some (.int .i64 c.bits) ∧ w'.cell? ⟨w.heap.size, 0, none⟩ = some (.int .i64 4)) (fun w' => w'.cell? ⟨w.heap.size + 1, 0, none⟩ = some (.slice sv xs.length sc)) 13 (by kernel_rfl) (by kernel_rfl) (fun R hR => ?_)
  refine anyT_takeA (i := 1) (v := ?_) (by simp only [qA, qS, qZ]; rfl) (by kernel_rfl) (by kernel_rfl) (by kernel_rfl) (by kernel_rfl) (fun _ _ _ h => h) (Or.inl ⟨by rfl, ?_⟩) (HAX.out _ hb0) (Or.inr (by rw [(blk (HBO.out _ hb0)).1 0]; rfl)) ?_
  rotate_left 1
  ·intro w hSw; (try dsimp only at hSw); go_simp; (first | done | with_reducible rfl)
  try simp only [Act.put, qI, qX, qY]
  refine anyT_takeA (i := 2) (v := ?_) (by simp only [qA, qS, qZ]; rfl) (by kernel_rfl) (by kernel_rfl) (by kernel_rfl) (by kernel_rfl) (fun _ _ _ h => h) (Or.inl ⟨by rfl, ?_⟩) (HAX.out _ hb0) (Or.inr (by rw [(blk (HBO.out _ hb0)).1 0]; rfl)) ?_
  rotate_left 1
  ·intro w hSw; (try dsimp only at hSw); go_simp; (first | done | with_reducible rfl)
  try simp only [Act.put, qI, qX, qY]
  refine anyT_takeA (i := 3) (v := ?_) (by simp only [qA, qS, qZ]; rfl) (by kernel_rfl) (by kernel_rfl) (by kernel_rfl) (by kernel_rfl) (fun _ _ _ h => h) (Or.inl ⟨by rfl, ?_⟩) (HAX.out _ hb0) (Or.inr (by rw [(blk (HBO.out _ hb0)).1 0]; rfl)) ?_
  rotate_left 1
  ·intro w hSw; (try dsimp only at hSw); go_simp; (first | done | with_reducible rfl)
  try simp only [Act.put, qI, qX, qY]
  refine anyT_takeA (i := 4) (v := ?_) (by simp only [qA, qS, qZ]; rfl) (by kernel_rfl) (by kernel_rfl) (by kernel_rfl) (by kernel_rfl) (fun _ _ _ h => h) (Or.inl ⟨by rfl, ?_⟩) (HAX.out _ hb0) (Or.inr (by rw [(blk (HBO.out _ hb0)).1 0]; rfl)) ?_
  rotate_left 1
  ·intro w hSw; (try dsimp only at hSw); go_simp; (first | done | with_reducible rfl)
  try simp only [Act.put, qI, qX, qY]
  refine anyT_takeA (i := 5) (v := ?_) (by simp only [qA, qS, qZ]; rfl) (by kernel_rfl) (by kernel_rfl) (by kernel_rfl) (by kernel_rfl) (fun _ _ _ h => h) (Or.inl ⟨by rfl, ?_⟩) (HAX.out _ hb0) (Or.inr (by rw [(blk (HBO.out _ hb0)).1 0]; rfl)) ?_
  rotate_left 1
  ·intro w hSw; (try dsimp only at hSw); go_simp; (first | done | with_reducible rfl)
  try simp only [Act.put, qI, qX, qY]
  refine anyT_takeA (i := 6) (v := ?_) (by simp only [qA, qS, qZ]; rfl) (by kernel_rfl) (by kernel_rfl) (by kernel_rfl) (by kernel_rfl) (fun _ _ _ h => h) (Or.inl ⟨by rfl, ?_⟩) (HAX.out _ hb0) (Or.inr (by rw [(blk (HBO.out _ hb0)).1 0]; rfl)) ?_
  rotate_left 1
  ·intro w hSw; (try dsimp only at hSw); go_simp; (first | done | with_reducible rfl)
  try simp only [Act.put, qI, qX, qY]
  refine anyT_takeA (i := 7) (v := ?_) (by simp only [qA, qS, qZ]; rfl) (by kernel_rfl) (by kernel_rfl) (by kernel_rfl) (by kernel_rfl) (fun _ _ _ h => h) (Or.inl ⟨by rfl, ?_⟩) (HAX.out _ hb0) (Or.inr (by rw [(blk (HBO.out _ hb0)).1 0]; rfl)) ?_
  rotate_left 1
  ·intro w hSw; (try dsimp only at hSw); go_simp; (first | done | with_reducible rfl)
  try simp only [Act.put, qI, qX, qY]
  refine anyT_takeA (i := 8) (v := ?_) (by simp only [qA, qS, qZ]; rfl) (by kernel_rfl) (by kernel_rfl) (by kernel_rfl) (by kernel_rfl) (fun _ _ _ h => h) (Or.inl ⟨by rfl, ?_⟩) (HAX.out _ hb0) (Or.inr (by rw [(blk (HBO.out _ hb0)).1 0]; rfl)) ?_
  rotate_left 1
  ·intro w hSw; (try dsimp only at hSw); go_simp; (first | done | with_reducible rfl)
  try simp only [Act.put, qI, qX, qY]
  refine anyT_takeA (i := 9) (v := ?_) (by simp only [qA, qS, qZ]; rfl) (by kernel_rfl) (by kernel_rfl) (by kernel_rfl) (by kernel_rfl) (fun _ _ _ h => h) (Or.inl ⟨by rfl, ?_⟩) (HAX.out _ hb0) (Or.inr (by rw [(blk (HBO.out _ hb0)).1 0]; rfl)) ?_
  rotate_left 1
  ·intro w hSw; (try dsimp only at hSw); go_simp; (first | done | with_reducible rfl)
  try simp only [Act.put, qI, qX, qY]
  refine anyT_take (i := 0) (v := ?_) (by simp only [qA, qZ]; rfl) (by kernel_rfl) (by kernel_rfl) (by kernel_rfl) (by kernel_rfl) (fun _ _ _ h => h) (Or.inl ⟨by rfl, ?_⟩) ⟨HAX.out _ hb0, by rw [(blk (HBO.out _ hb0)).1 0]; rfl⟩ ?_
  rotate_left 1
  ·intro w hSw; (try dsimp only at hSw); go_simp; (first | done | with_reducible rfl)
  try simp only [Act.put, qI, qX, qY]
  refine anyT_ready (rs := [10]) (by kernel_rfl) (by simp) ?_
  refine AllReadyT.cons (by simp only [qA, qS, qZ]; rfl) (fun K hK => ?_) AllReadyT.nil
  go_simp
  refine (HS.out _ hb0).mono ?_
  rintro e x1 ⟨sa1, sc1, rfl, hk1, hst1⟩
  have HK1 := Lib.hid hk1
  clear hk1
  have hb1 : Below W.heap.size W x1 := below_from hb0 hst1
  refine hK.out _ _ (HAX.out _ hb1) (Or.inr (by rw [(blk (HBO.out _ hb1)).1 0]; rfl)) ?_
  clear hK K
  try simp only [Act.put, qI, qX, qY]
  refine anyT_ready (rs := [11]) (by kernel_rfl) (by simp) ?_
  refine AllReadyT.cons (by simp only [qA, qS, qZ]; rfl) (fun K hK => ?_) AllReadyT.nil
  go_simp
  refine (HWr.out _ _ _ _ HK1.out).mono ?_
  rintro e x2 ⟨sa2, sc2, rfl, hk2, hst2⟩
  have HK2 := Lib.hid hk2
  clear hk2
  have hb2 : Below W.heap.size W x2 := below_from hb1 hst2
  refine hK.out _ _ (HAX.out _ hb2) (Or.inr (by rw [(blk (HBO.out _ hb2)).1 0]; rfl)) ?_
  clear hK K
  try simp only [Act.put, qI, qX, qY]
  refine anyT_ready (rs := [12]) (by kernel_rfl) (by simp) ?_
  refine AllReadyT.cons (by simp only [qA, qS, qZ]; rfl) (fun K hK => ?_) AllReadyT.nil
  have hbs3 := hb2.size
  have HRX3 := HRW.out _ hb2
  have HRY3 := HRW.out _ hb1
  have hsz3 : w6.heap.size ≤ x2.heap.size := Nat.le_trans HIN.out.2 hb2.size
  have hsy3 : w6.heap.size ≤ x1.heap.size := Nat.le_trans HIN.out.2 hb1.size
  obtain ⟨news3, hsrc3, hnews3⟩ := SliceR.src (P := Tryz.prog) (st := 23) rowNod (eltNod 11).pos (eltNod 11).ones HK2.out
  (refine step_append_X (by rfl) _ _ 23 23 (by rfl) rowNod (eltNod 11) w6.heap.size (.slice sv xs.length sc) _ (xs := xs) (ys := G) (news := news3) (by rfl) (by rfl) HRX3 hsz3 hsrc3 (news_apart (rdNod_stable _ _) HRY3 hsy3 hnews3) hxl ?_)
  intro va3 y3 hra3 hba3 hga3 _
  obtain ⟨wa3, wn3, wc3, hwe3⟩ : ∃ a n c, va3 = .slice a n c := by obtain ⟨a, c, e⟩ := hra3.slice; exact ⟨a, _, c, e⟩
  subst hwe3
  have HRA3 := Lib.hid hra3
  have HGA3 := Lib.hid hga3
  clear hra3 hga3 hsrc3 hnews3
  have hob3 : y3.heap[(w.heap.size + 1)]? = some (.cells #[.slice sv xs.length sc] 23) := (hba3.block _ (by have := hZB; have := hbs3; omega)).trans (HBO.out _ hb2)
  obtain ⟨qo3, fo3⟩ := blk hob3
  have ha3 := HAY.out _ hb2 y3 (HAX.out _ hb2) hba3
  refine hK.out _ _ (ha3) (Or.inr (by rw [qo3 0]; rfl)) ?_
  clear hK K
  try simp only [Act.put, qI, qX, qY]
  refine anyT_ready (rs := [13]) (by kernel_rfl) (by simp) ?_
  refine AllReadyT.cons (by simp only [qA, qS, qZ]; rfl) (fun K hK => ?_) AllReadyT.nil
  go_simp
  refine hK.out _ _ (⟨(setCell_block hbo).trans ha3.1, (setCell_block hbo2).trans ha3.2⟩) (Or.inl (by kernel_rfl)) ?_
  clear hK K
  try simp only [Act.put, qI, qX, qY]
  refine anyT_done (by kernel_rfl) ?_ _
  refine hR.out _ _ ?_
  have hfin := put_row (F := (fun p : List Cel => wrapO (lvBit 2 (p.headD default)) (gr (bitsK 1) p))) HIN.out.1 HIN.out.2 hB1 hB2 hB3 hwZ hb2 HRA3.out hba3 HGA3.out HRX3 HNE.out HGN.out hob3 HT.out
  gi_wp2_with fail
  exact ⟨hfin.1 _, hfin.2⟩
 case done =>
  rintro D ys W hD hys ⟨v9, t0, hR, hne, hb, hz⟩ hK
  have e : (ys.flatMap fun y : PartX l => (fun p : List Cel => wrapO (lvBit 2 (p.headD default)) (gr (bitsK 1) p)) (cutP l y.1)) = gr (bitsK (1 + 1)) l := by
   rw [gr_bit 2 1 l rfl, ← hys, List.flatMap_map]
  rw [e] at hR
  have hrow := RwX.row (rdNod_stable _ _) ((rowx_own D w6.heap.size 11 v9 (fun _ : Unit => gr (bitsK (1 + 1)) l)).putObj (s := ()) (.deferred none) hR (Nat.le_refl _) hK rfl)
  obtain ⟨s0, s0f⟩ := blk t0
  obtain ⟨va9, c9, rfl⟩ := hR.slice
  have HROW := Lib.hid hrow
  have HB9 := Lib.hid hb
  have HK9 := Lib.hid hK
  clear hR hb hK hne hrow e
  generalize (gr (bitsK (1 + 1)) l).length = n9 at *
  gi_wp2_with fail
  refine ⟨by simp, .inl ⟨_, _, rfl, run_takeDeferred HK9.out, ?_⟩⟩
  refine ⟨.slice va9 n9 c9, by simp [results, Tryz.results136, go_sem], ?_⟩
  refine ⟨_, rfl, SliceR.stable (rdNod_stable _ _) HROW.out (Keeps.refl _ _) (fun b h _ => Nat.le_trans (Nat.le_trans hww hwZ) h), ?_⟩
  exact HBW.out.trans ((HB9.out.trans (belowK_b (w := w1) (Nat.le_refl _) W D _ _ (by omega) HK9.out rfl rfl)).mono hww)
set_option maxRecDepth 200000 in
set_option maxHeartbeats 8000000 in
theorem styled_2 (HSt : ∀ (v : Value) (l : List Cel) (w w0 : World) (S : Nat → Prop), CelsR false w0 S v l → Below w0.heap.size w0 w → l.length ≤ 6000 →
  Calls Tryz.prog 136 #[v, .int .i64 4] w fun e w' => ∃ v', e = .returned v' ∧ NodsR true 11 w' (fun b => w.heap.size ≤ b) v' (gr (bitsK 2) l) ∧ Below w.heap.size w w')
  (v : Value) (l : List Cel) (w w0 : World) (S : Nat → Prop) (hv : CelsR false w0 S v l) (h0 : Below w0.heap.size w0 w) (hlen : l.length ≤ 6000) :
  Calls Tryz.prog 136 #[v, .int .i64 2] w fun e w' => ∃ v', e = .returned v' ∧ NodsR true 16 w' (fun b => w.heap.size ≤ b) v' (gr (bitsK (2 + 1)) l) ∧ Below w.heap.size w w' := by
 have hw := SliceR.below (rdOf_stable _) hv h0
 obtain ⟨va, vc, rfl⟩ := hv.slice
 have HV := Lib.hid hw
 have HSt := Lib.hid HSt
 clear hv hw
 refine (callsIn_wide (n := 6)).1 ?_
 refine callsIn_of_wp_marks Tryz.func136 rfl trivial ?_ rfl
 simp only [Tryz.ntmps136, List.size_toArray, List.length_cons, List.length_nil, Nat.reduceAdd, Nat.reduceSub, Array.replicate_succ, Array.replicate_zero, List.push_toArray, List.append_toArray, List.nil_append, List.cons_append]
 have hwf : ∀ f, Fence.wide.fn f := fun _ => trivial
 have hwd : Fence.wide.depth = none := rfl
 gi_wp2_with (gi_at_call 133; refine (callsIn_wide.2 (partsC_any _ _ _ _ _ _)).mono ?_; rintro e w5 ⟨rfl, rfl⟩)
 obtain ⟨w1, hw1⟩ : ∃ w1, w.alloc (.cells #[.int .i64 2] 3) = w1 := ⟨_, rfl⟩
 rw [hw1]
 obtain ⟨w6, hw6⟩ : ∃ w6, ((w1.alloc (.cells #[.slice none 0 0] 23)).alloc (.cells #[.slice va l.length vc] 35)).alloc (.cells #[.func (.func 149) #[] #[.pointer (some ⟨w.heap.size, 0, none⟩)]] 159) = w6 := ⟨_, rfl⟩
 rw [hw6]
 have hz1 : w1.heap.size = w.heap.size + 1 := by rw [← hw1]; simp
 have HBW : Hid (Below w.heap.size w w1) := Lib.hid (hw1 ▸ (Below.refl _ _).alloc (Nat.le_refl _) _)
 have HBB : Hid (w1.heap[w.heap.size]? = some (.cells #[.int .i64 2] 3)) := Lib.hid (hw1 ▸ heap_new _ _ rfl)
 have hb6 : Below w1.heap.size w1 w6 := hw6 ▸ (((Below.refl _ _).alloc (Nat.le_refl _) _).alloc (by simp) _).alloc (by simp; omega) _
 have hz6 : w6.heap.size = w1.heap.size + 3 := by rw [← hw6]; simp
 have m0 : w6.heap[w.heap.size + 1]? = some (.cells #[.slice none 0 0] 23) := hw6 ▸ heap_old _ _ (heap_old _ _ (heap_new _ _ (by omega)))
 have n0 : w6.heap[w.heap.size + 1 + 1]? = some (.cells #[.slice va l.length vc] 35) := hw6 ▸ heap_old _ _ (heap_new _ _ (by simp; omega))
 have n1 : w6.heap[w.heap.size + 1 + 1 + 1]? = some (.cells #[.func (.func 149) #[] #[.pointer (some ⟨w.heap.size, 0, none⟩)]] 159) := hw6 ▸ heap_new _ _ (by simp; omega)
 have hPL : PL (d := l) 16 (fun p : List Cel => wrapO (lvBit 1 (p.headD default)) (gr (bitsK 2) p)) w1 (w.heap.size + 1) w6.heap.size [] w6 := ⟨_, m0, RwX.nil _ _ _ _ _, .inl rfl, hb6, Nat.le_refl _⟩
 have N0 := Lib.hid (And.intro n0 n1)
 have hZB : w.heap.size + 1 < w6.heap.size := by omega
 have HZ6 := Lib.hid (And.intro hz6 hz1)
 have hB1 : w1.heap.size ≤ w.heap.size + 1 := by omega
 have hB2 : w.heap.size + 1 < w.heap.size + 1 + 1 := Nat.lt_succ_self _
 have hB3 := hZB
 have hwZ := hb6.size
 have hww := HBW.out.size
 clear hw6 m0 n0 n1 hz6 hw1 hz1
 refine rangeFunc_slotB rfl (by omega) (gf := 147) (lb := #[.pointer (some ⟨w.heap.size + 1 + 1, 0, none⟩), .pointer (some ⟨w.heap.size + 1 + 1 + 1, 0, none⟩)]) rfl trivial (enters_of Tryz.func147 (by kernel_rfl) rfl)
  (encs := partEnc (d := l) va vc 3) (n₀ := w1.heap.size) (base := w.heap.size + 1 + 1) (top := w6.heap.size) (S := fun ys => ys.map (fun y => cutP l y.1) = partsBy (bitR 1) l) (Sp := fun _ => True) (N := l.length) (w0 := w6) ?seq hb6.size (Below.refl _ _) (fun _ => rfl)
  (PL 16 (fun p : List Cel => wrapO (lvBit 1 (p.headD default)) (gr (bitsK 2) p)) w1 (w.heap.size + 1) w6.heap.size) (pl_own hb6.size) hPL ?act ?assign ?body ?done
 case seq =>
  intro l' J Jx W hW hJ _ hY h0
  exact parts1_styled 5 l' (w.heap.size + 1 + 1) (w.heap.size + 1 + 1 + 1) (w.heap.size + 1 + 1) w6.heap.size w.heap.size va vc l (bitR 1) S J Jx w1 W (HV.out.below (rdOf_stable _) HBW.out) (hb6.trans (hW.mono hb6.size)) (fun X hX x y => al_bit x y w.heap.size 1 (by omega) X (heap_below hX HBB.out)) ⟨by omega, by omega⟩ (by have := HZ6.out; omega) (heap_below hW N0.out.1) (heap_below hW N0.out.2) (by omega) hJ hY h0
 case assign =>
  intro l' pre x W K hI hK
  rw [show partEnc va vc 3 x = #[partV va vc 3 x.1] from rfl]
  gi_wp2
  exact hK
 case body =>
  intro l' pre x W hI hlt
  obtain ⟨v0, hD, hRW, hne, hb, hzW⟩ := hI
  have hpr := part_cels HV.out x
  have hpn := cut_ne x
  have hpz := cut_len x
  obtain ⟨P, hP⟩ : ∃ P, cutP l x.1 = P := ⟨_, rfl⟩
  have HT : Hid ((pre ++ [x]).flatMap (fun y => (fun p : List Cel => wrapO (lvBit 1 (p.headD default)) (gr (bitsK 2) p)) (cutP l y.1)) = pre.flatMap (fun y => (fun p : List Cel => wrapO (lvBit 1 (p.headD default)) (gr (bitsK 2) p)) (cutP l y.1)) ++ (fun p : List Cel => wrapO (lvBit 1 (p.headD default)) (gr (bitsK 2) p)) P) := Lib.hid (by rw [List.flatMap_append, ← hP]; simp)
  rw [hP] at hpr hpn hpz
  obtain ⟨pa, pc, hpe, hpl, hpm, hpx⟩ := cels_shape hpr
  rw [hpe]
  rw [hpe] at hpr
  obtain ⟨c, P', rfl⟩ : ∃ c P', P = c :: P' := by cases P with | nil => exact absurd rfl hpn | cons c P' => exact ⟨c, P', rfl⟩
  obtain ⟨bb, oo, e, hbz, c0, c1, c2⟩ := hpx 0 c rfl
  subst e
  simp only [Nat.zero_mul, Nat.add_zero] at c0 c1 c2
  obtain ⟨xs, hxs⟩ : ∃ xs, pre.flatMap (fun y : PartX l => (fun p : List Cel => wrapO (lvBit 1 (p.headD default)) (gr (bitsK 2) p)) (cutP l y.1)) = xs := ⟨_, rfl⟩
  have hxl0 : xs.length ≤ pre.length * 6000 := by
   rw [← hxs]
   exact flat_le_all _ 6000 pre (fun y => Nat.le_trans ((fun y => wrapO_len _ (cut_ne y) (gr_len _ _)) y) (Nat.le_trans (cut_len y) hlen))
  have hxl1 : pre.length * 6000 ≤ 6000 * 6000 := Nat.mul_le_mul_right _ (by omega)
  have hxl2 : xs.length ≤ 36000000 := by omega
  clear hxl1
  rw [hxs] at hRW hne HT
  have HRB := Lib.hid (rowx_block hRW hne)
  obtain ⟨sv, sc, hv0⟩ := hRW.slice
  subst hv0
  have HRW : Hid (∀ X, Below W.heap.size W X → RwX 25 4 (rdNod true 16) X w6.heap.size (.slice sv xs.length sc) xs) := Lib.hid fun X hX => RwX.below (rdNod_stable _ _) hRW (.all (by exact ⟨hX.os, hX.tape, hX.output, hX.size, fun b hz => hX.block b hz⟩))
  have HBO : Hid (∀ X, Below W.heap.size W X → X.heap[w.heap.size + 1]? = some (.cells #[.slice sv xs.length sc] 23)) := Lib.hid fun X hX => heap_below hX hD
  have HNE := Lib.hid hne
  have HIN := Lib.hid (And.intro hb hzW)
  have HPR := Lib.hid hpr
  obtain ⟨q0, g0⟩ := blk hD
  have i0 : (0 : Int) < (((c :: P').length : Nat) : Int) := by simp only [List.length_cons]; omega
  have hb0 : Below W.heap.size W W.drew := (Below.refl _ _).drew
  clear hpx hP hpn hRW hne hxs hxl0 hpr
  have HT : Hid ((pre ++ [x]).flatMap (fun y => wrapO (lvBit 1 ((cutP l y.1).headD default)) (gr (bitsK 2) (cutP l y.1))) = xs ++ wrapO (lvBit 1 c) (gr (bitsK 2) (c :: P'))) := HT
  have hgl := gr_len (bitsK 2) (c :: P')
  have hwl := wrapO_len (lvBit 1 c) (p := c :: P') (by simp) hgl
  have HGN : Hid (wrapO (lvBit 1 c) (gr (bitsK 2) (c :: P')) ≠ []) := Lib.hid (wrapO_ne (gr_ne _ (by simp)))
  have hgf := gr_fit (bitsK 2) (c :: P') (by omega) (bitsK_fit 2)
  have HS : Hid (∀ X, Below W.heap.size W X → Calls Tryz.prog 136 #[.slice (some ⟨bb, oo, none⟩) (c :: P').length pc, .int .i64 4] X fun e X' => ∃ sa sc, e = .returned (.slice sa (gr (bitsK 2) (c :: P')).length sc) ∧ NodsR true 11 X' (fun b => X.heap.size ≤ b) (.slice sa (gr (bitsK 2) (c :: P')).length sc) (gr (bitsK 2) (c :: P')) ∧ Below X.heap.size X X') := Lib.hid fun X hX => by
   refine (HSt.out _ _ X w S HPR.out (HBW.out.trans ((hb.trans (hX.mono hb.size)).mono hww)) (by omega)).mono ?_
   rintro e X' ⟨v', h1, h2, h3⟩
   obtain ⟨sa, sc, rfl⟩ := h2.slice
   exact ⟨sa, sc, h1, h2, h3⟩
  have HWr : Hid (∀ X X0 sa sc, NodsR true 11 X (fun b => X0 ≤ b) (.slice sa (gr (bitsK 2) (c :: P')).length sc) (gr (bitsK 2) (c :: P')) → Calls Tryz.prog 135 #[.int .i64 (bits .and .i64 c.bits 2), .string ⟨#[]⟩, .slice sa (gr (bitsK 2) (c :: P')).length sc] X fun e X' => ∃ sa sc, e = .returned (.slice sa (wrapO (lvBit 1 c) (gr (bitsK 2) (c :: P'))).length sc) ∧ NodsR true 16 X' (fun b => X.heap.size ≤ b) (.slice sa (wrapO (lvBit 1 c) (gr (bitsK 2) (c :: P'))).length sc) (wrapO (lvBit 1 c) (gr (bitsK 2) (c :: P'))) ∧ Below X.heap.size X X') := Lib.hid fun X X0 sa sc hk => by
   refine (wrap_high 11 (bits .and .i64 c.bits 2) [] _ _ true X X _ hk (Below.refl _ _) (by omega) hgf).mono ?_
   rintro e X' ⟨v', h', h1, h2, h3, h4⟩
   have ew : wrapN (bits .and .i64 c.bits 2) [] (gr (bitsK 2) (c :: P')) = wrapO (lvBit 1 c) (gr (bitsK 2) (c :: P')) := wrap_bit 1 (by omega) c _
   rw [ew] at h2
   have h2 := nods_mono' h4 h2
   obtain ⟨sa, sc, rfl⟩ := h2.slice
   exact ⟨sa, sc, h1, h2, h3⟩
  have hxl : xs.length + (wrapO (lvBit 1 c) (gr (bitsK 2) (c :: P'))).length ≤ 100000000 := by omega
  have HAA : Hid (∀ X, Below w1.heap.size w1 X → X.cell? ⟨bb, oo + 1, none⟩ = some (.int .i64 c.bits) ∧ X.cell? ⟨w.heap.size, 0, none⟩ = some (.int .i64 2)) := Lib.hid fun X hX => ⟨(hX.cell (p := ⟨bb, oo + 1, none⟩) (by show bb < w1.heap.size; omega)).trans ((HBW.out.cell (p := ⟨bb, oo + 1, none⟩) hbz).trans c1), by rw [(blk (heap_below hX HBB.out)).1 0]; rfl⟩
  have HAX : Hid (∀ X, Below W.heap.size W X → X.cell? ⟨bb, oo + 1, none⟩ = some (.int .i64 c.bits) ∧ X.cell? ⟨w.heap.size, 0, none⟩ = some (.int .i64 2)) := Lib.hid fun X hX => HAA.out X (hb.trans (hX.mono hb.size))
  have HAY : Hid (∀ X, Below W.heap.size W X → ∀ Y, (X.cell? ⟨bb, oo + 1, none⟩ = some (.int .i64 c.bits) ∧ X.cell? ⟨w.heap.size, 0, none⟩ = some (.int .i64 2)) → Below w6.heap.size X Y → Y.cell? ⟨bb, oo + 1, none⟩ = some (.int .i64 c.bits) ∧ Y.cell? ⟨w.heap.size, 0, none⟩ = some (.int .i64 2)) := Lib.hid fun X hX Y h hY => ⟨(hY.cell (p := ⟨bb, oo + 1, none⟩) (by show bb < w6.heap.size; omega)).trans h.1, (hY.cell (p := ⟨w.heap.size, 0, none⟩) (by show w.heap.size < w6.heap.size; omega)).trans h.2⟩
  have hbo : w.heap.size + 1 ≠ bb := by omega
  have hbo2 : w.heap.size + 1 ≠ w.heap.size := by omega
  generalize gr (bitsK 2) (c :: P') = G0 at *
  generalize hGG : wrapO (lvBit 1 c) G0 = G at *
  clear hgl hwl hgf hGG hb HV
  gi_wp2_with fail
  refine wpIn_region_T (fun w' => w'.cell? ⟨bb, oo + 1, none⟩ = some (.int .i64 c.bits) ∧ w'.cell? ⟨w.heap.size, 0, none⟩ = some (.int .i64 2)) (fun w' => w'.cell? ⟨w.heap.size + 1, 0, none⟩ = some (.slice sv xs.length sc)) 13 (by kernel_rfl) (by kernel_rfl) (fun R hR => ?_)
  refine anyT_takeA (i := 1) (v := ?_) (by simp only [qA, qS, qZ]; rfl) (by kernel_rfl) (by kernel_rfl) (by kernel_rfl) (by kernel_rfl) (fun _ _ _ h => h) (Or.inl ⟨by rfl, ?_⟩) (HAX.out _ hb0) (Or.inr (by rw [(blk (HBO.out _ hb0)).1 0]; rfl)) ?_
  rotate_left 1
  ·intro w hSw; (try dsimp only at hSw); go_simp; (first | done | with_reducible rfl)
  try simp only [Act.put, qI, qX, qY]
  refine anyT_takeA (i := 2) (v := ?_) (by simp only [qA, qS, qZ]; rfl) (by kernel_rfl) (by kernel_rfl) (by kernel_rfl) (by kernel_rfl) (fun _ _ _ h => h) (Or.inl ⟨by rfl, ?_⟩) (HAX.out _ hb0) (Or.inr (by rw [(blk (HBO.out _ hb0)).1 0]; rfl)) ?_
  rotate_left 1
  ·intro w hSw; (try dsimp only at hSw); go_simp; (first | done | with_reducible rfl)
  try simp only [Act.put, qI, qX, qY]
  refine anyT_takeA (i := 3) (v := ?_) (by simp only [qA, qS, qZ]; rfl) (by kernel_rfl) (by kernel_rfl) (by kernel_rfl) (by kernel_rfl) (fun _ _ _ h => h) (Or.inl ⟨by rfl, ?_⟩) (HAX.out _ hb0) (Or.inr (by rw [(blk (HBO.out _ hb0)).1 0]; rfl)) ?_
  rotate_left 1
  ·intro w hSw; (try dsimp only at hSw); go_simp; (first | done | with_reducible rfl)
  try simp only [Act.put, qI, qX, qY]
  refine anyT_takeA (i := 4) (v := ?_) (by simp only [qA, qS, qZ]; rfl) (by kernel_rfl) (by kernel_rfl) (by kernel_rfl) (by kernel_rfl) (fun _ _ _ h => h) (Or.inl ⟨by rfl, ?_⟩) (HAX.out _ hb0) (Or.inr (by rw [(blk (HBO.out _ hb0)).1 0]; rfl)) ?_
  rotate_left 1
  ·intro w hSw; (try dsimp only at hSw); go_simp; (first | done | with_reducible rfl)
  try simp only [Act.put, qI, qX, qY]
  refine anyT_takeA (i := 5) (v := ?_) (by simp only [qA, qS, qZ]; rfl) (by kernel_rfl) (by kernel_rfl) (by kernel_rfl) (by kernel_rfl) (fun _ _ _ h => h) (Or.inl ⟨by rfl, ?_⟩) (HAX.out _ hb0) (Or.inr (by rw [(blk (HBO.out _ hb0)).1 0]; rfl)) ?_
  rotate_left 1
  ·intro w hSw; (try dsimp only at hSw); go_simp; (first | done | with_reducible rfl)
  try simp only [Act.put, qI, qX, qY]
  refine anyT_takeA (i := 6) (v := ?_) (by simp only [qA, qS, qZ]; rfl) (by kernel_rfl) (by kernel_rfl) (by kernel_rfl) (by kernel_rfl) (fun _ _ _ h => h) (Or.inl ⟨by rfl, ?_⟩) (HAX.out _ hb0) (Or.inr (by rw [(blk (HBO.out _ hb0)).1 0]; rfl)) ?_
  rotate_left 1
  ·intro w hSw; (try dsimp only at hSw); go_simp; (first | done | with_reducible rfl)
  try simp only [Act.put, qI, qX, qY]
  refine anyT_takeA (i := 7) (v := ?_) (by simp only [qA, qS, qZ]; rfl) (by kernel_rfl) (by kernel_rfl) (by kernel_rfl) (by kernel_rfl) (fun _ _ _ h => h) (Or.inl ⟨by rfl, ?_⟩) (HAX.out _ hb0) (Or.inr (by rw [(blk (HBO.out _ hb0)).1 0]; rfl)) ?_
  rotate_left 1
  ·intro w hSw; (try dsimp only at hSw); go_simp; (first | done | with_reducible rfl)
  try simp only [Act.put, qI, qX, qY]
  refine anyT_takeA (i := 8) (v := ?_) (by simp only [qA, qS, qZ]; rfl) (by kernel_rfl) (by kernel_rfl) (by kernel_rfl) (by kernel_rfl) (fun _ _ _ h => h) (Or.inl ⟨by rfl, ?_⟩) (HAX.out _ hb0) (Or.inr (by rw [(blk (HBO.out _ hb0)).1 0]; rfl)) ?_
  rotate_left 1
  ·intro w hSw; (try dsimp only at hSw); go_simp; (first | done | with_reducible rfl)
  try simp only [Act.put, qI, qX, qY]
  refine anyT_takeA (i := 9) (v := ?_) (by simp only [qA, qS, qZ]; rfl) (by kernel_rfl) (by kernel_rfl) (by kernel_rfl) (by kernel_rfl) (fun _ _ _ h => h) (Or.inl ⟨by rfl, ?_⟩) (HAX.out _ hb0) (Or.inr (by rw [(blk (HBO.out _ hb0)).1 0]; rfl)) ?_
  rotate_left 1
  ·intro w hSw; (try dsimp only at hSw); go_simp; (first | done | with_reducible rfl)
  try simp only [Act.put, qI, qX, qY]
  refine anyT_take (i := 0) (v := ?_) (by simp only [qA, qZ]; rfl) (by kernel_rfl) (by kernel_rfl) (by kernel_rfl) (by kernel_rfl) (fun _ _ _ h => h) (Or.inl ⟨by rfl, ?_⟩) ⟨HAX.out _ hb0, by rw [(blk (HBO.out _ hb0)).1 0]; rfl⟩ ?_
  rotate_left 1
  ·intro w hSw; (try dsimp only at hSw); go_simp; (first | done | with_reducible rfl)
  try simp only [Act.put, qI, qX, qY]
  refine anyT_ready (rs := [10]) (by kernel_rfl) (by simp) ?_
  refine AllReadyT.cons (by simp only [qA, qS, qZ]; rfl) (fun K hK => ?_) AllReadyT.nil
  go_simp
  refine (HS.out _ hb0).mono ?_
  rintro e x1 ⟨sa1, sc1, rfl, hk1, hst1⟩
  have HK1 := Lib.hid hk1
  clear hk1
  have hb1 : Below W.heap.size W x1 := below_from hb0 hst1
  refine hK.out _ _ (HAX.out _ hb1) (Or.inr (by rw [(blk (HBO.out _ hb1)).1 0]; rfl)) ?_
  clear hK K
  try simp only [Act.put, qI, qX, qY]
  refine anyT_ready (rs := [11]) (by kernel_rfl) (by simp) ?_
  refine AllReadyT.cons (by simp only [qA, qS, qZ]; rfl) (fun K hK => ?_) AllReadyT.nil
  go_simp
  refine (HWr.out _ _ _ _ HK1.out).mono ?_
  rintro e x2 ⟨sa2, sc2, rfl, hk2, hst2⟩
  have HK2 := Lib.hid hk2
  clear hk2
  have hb2 : Below W.heap.size W x2 := below_from hb1 hst2
  refine hK.out _ _ (HAX.out _ hb2) (Or.inr (by rw [(blk (HBO.out _ hb2)).1 0]; rfl)) ?_
  clear hK K
  try simp only [Act.put, qI, qX, qY]
  refine anyT_ready (rs := [12]) (by kernel_rfl) (by simp) ?_
  refine AllReadyT.cons (by simp only [qA, qS, qZ]; rfl) (fun K hK => ?_) AllReadyT.nil
  have hbs3 := hb2.size
  have HRX3 := HRW.out _ hb2
  have HRY3 := HRW.out _ hb1
  have hsz3 : w6.heap.size ≤ x2.heap.size := Nat.le_trans HIN.out.2 hb2.size
  have hsy3 : w6.heap.size ≤ x1.heap.size := Nat.le_trans HIN.out.2 hb1.size
  obtain ⟨news3, hsrc3, hnews3⟩ := SliceR.src (P := Tryz.prog) (st := 23) rowNod (eltNod 16).pos (eltNod 16).ones HK2.out
  (refine step_append_X (by rfl) _ _ 23 23 (by rfl) rowNod (eltNod 16) w6.heap.size (.slice sv xs.length sc) _ (xs := xs) (ys := G) (news := news3) (by rfl) (by rfl) HRX3 hsz3 hsrc3 (news_apart (rdNod_stable _ _) HRY3 hsy3 hnews3) hxl ?_)
  intro va3 y3 hra3 hba3 hga3 _
  obtain ⟨wa3, wn3, wc3, hwe3⟩ : ∃ a n c, va3 = .slice a n c := by obtain ⟨a, c, e⟩ := hra3.slice; exact ⟨a, _, c, e⟩
  subst hwe3
  have HRA3 := Lib.hid hra3
  have HGA3 := Lib.hid hga3
  clear hra3 hga3 hsrc3 hnews3
  have hob3 : y3.heap[(w.heap.size + 1)]? = some (.cells #[.slice sv xs.length sc] 23) := (hba3.block _ (by have := hZB; have := hbs3; omega)).trans (HBO.out _ hb2)
  obtain ⟨qo3, fo3⟩ := blk hob3
  have ha3 := HAY.out _ hb2 y3 (HAX.out _ hb2) hba3
  refine hK.out _ _ (ha3) (Or.inr (by rw [qo3 0]; rfl)) ?_
  clear hK K
  try simp only [Act.put, qI, qX, qY]
  refine anyT_ready (rs := [13]) (by kernel_rfl) (by simp) ?_
  refine AllReadyT.cons (by simp only [qA, qS, qZ]; rfl) (fun K hK => ?_) AllReadyT.nil
  go_simp
  refine hK.out _ _ (⟨(setCell_block hbo).trans ha3.1, (setCell_block hbo2).trans ha3.2⟩) (Or.inl (by kernel_rfl)) ?_
  clear hK K
  try simp only [Act.put, qI, qX, qY]
  refine anyT_done (by kernel_rfl) ?_ _
  refine hR.out _ _ ?_
  have hfin := put_row (F := (fun p : List Cel => wrapO (lvBit 1 (p.headD default)) (gr (bitsK 2) p))) HIN.out.1 HIN.out.2 hB1 hB2 hB3 hwZ hb2 HRA3.out hba3 HGA3.out HRX3 HNE.out HGN.out hob3 HT.out
  gi_wp2_with fail
  exact ⟨hfin.1 _, hfin.2⟩
 case done =>
  rintro D ys W hD hys ⟨v9, t0, hR, hne, hb, hz⟩ hK
  have e : (ys.flatMap fun y : PartX l => (fun p : List Cel => wrapO (lvBit 1 (p.headD default)) (gr (bitsK 2) p)) (cutP l y.1)) = gr (bitsK (2 + 1)) l := by
   rw [gr_bit 1 2 l rfl, ← hys, List.flatMap_map]
  rw [e] at hR
  have hrow := RwX.row (rdNod_stable _ _) ((rowx_own D w6.heap.size 16 v9 (fun _ : Unit => gr (bitsK (2 + 1)) l)).putObj (s := ()) (.deferred none) hR (Nat.le_refl _) hK rfl)
  obtain ⟨s0, s0f⟩ := blk t0
  obtain ⟨va9, c9, rfl⟩ := hR.slice
  have HROW := Lib.hid hrow
  have HB9 := Lib.hid hb
  have HK9 := Lib.hid hK
  clear hR hb hK hne hrow e
  generalize (gr (bitsK (2 + 1)) l).length = n9 at *
  gi_wp2_with fail
  refine ⟨by simp, .inl ⟨_, _, rfl, run_takeDeferred HK9.out, ?_⟩⟩
  refine ⟨.slice va9 n9 c9, by simp [results, Tryz.results136, go_sem], ?_⟩
  refine ⟨_, rfl, SliceR.stable (rdNod_stable _ _) HROW.out (Keeps.refl _ _) (fun b h _ => Nat.le_trans (Nat.le_trans hww hwZ) h), ?_⟩
  exact HBW.out.trans ((HB9.out.trans (belowK_b (w := w1) (Nat.le_refl _) W D _ _ (by omega) HK9.out rfl rfl)).mono hww)
set_option maxRecDepth 200000 in
set_option maxHeartbeats 8000000 in
theorem styled_1 (HSt : ∀ (v : Value) (l : List Cel) (w w0 : World) (S : Nat → Prop), CelsR false w0 S v l → Below w0.heap.size w0 w → l.length ≤ 6000 →
  Calls Tryz.prog 136 #[v, .int .i64 2] w fun e w' => ∃ v', e = .returned v' ∧ NodsR true 16 w' (fun b => w.heap.size ≤ b) v' (gr (bitsK 3) l) ∧ Below w.heap.size w w')
  (v : Value) (l : List Cel) (w w0 : World) (S : Nat → Prop) (hv : CelsR false w0 S v l) (h0 : Below w0.heap.size w0 w) (hlen : l.length ≤ 6000) :
  Calls Tryz.prog 136 #[v, .int .i64 1] w fun e w' => ∃ v', e = .returned v' ∧ NodsR true 21 w' (fun b => w.heap.size ≤ b) v' (gr (bitsK (3 + 1)) l) ∧ Below w.heap.size w w' := by
 have hw := SliceR.below (rdOf_stable _) hv h0
 obtain ⟨va, vc, rfl⟩ := hv.slice
 have HV := Lib.hid hw
 have HSt := Lib.hid HSt
 clear hv hw
 refine (callsIn_wide (n := 6)).1 ?_
 refine callsIn_of_wp_marks Tryz.func136 rfl trivial ?_ rfl
 simp only [Tryz.ntmps136, List.size_toArray, List.length_cons, List.length_nil, Nat.reduceAdd, Nat.reduceSub, Array.replicate_succ, Array.replicate_zero, List.push_toArray, List.append_toArray, List.nil_append, List.cons_append]
 have hwf : ∀ f, Fence.wide.fn f := fun _ => trivial
 have hwd : Fence.wide.depth = none := rfl
 gi_wp2_with (gi_at_call 133; refine (callsIn_wide.2 (partsC_any _ _ _ _ _ _)).mono ?_; rintro e w5 ⟨rfl, rfl⟩)
 obtain ⟨w1, hw1⟩ : ∃ w1, w.alloc (.cells #[.int .i64 1] 3) = w1 := ⟨_, rfl⟩
 rw [hw1]
 obtain ⟨w6, hw6⟩ : ∃ w6, ((w1.alloc (.cells #[.slice none 0 0] 23)).alloc (.cells #[.slice va l.length vc] 35)).alloc (.cells #[.func (.func 149) #[] #[.pointer (some ⟨w.heap.size, 0, none⟩)]] 159) = w6 := ⟨_, rfl⟩
 rw [hw6]
 have hz1 : w1.heap.size = w.heap.size + 1 := by rw [← hw1]; simp
 have HBW : Hid (Below w.heap.size w w1) := Lib.hid (hw1 ▸ (Below.refl _ _).alloc (Nat.le_refl _) _)
 have HBB : Hid (w1.heap[w.heap.size]? = some (.cells #[.int .i64 1] 3)) := Lib.hid (hw1 ▸ heap_new _ _ rfl)
 have hb6 : Below w1.heap.size w1 w6 := hw6 ▸ (((Below.refl _ _).alloc (Nat.le_refl _) _).alloc (by simp) _).alloc (by simp; omega) _
 have hz6 : w6.heap.size = w1.heap.size + 3 := by rw [← hw6]; simp
 have m0 : w6.heap[w.heap.size + 1]? = some (.cells #[.slice none 0 0] 23) := hw6 ▸ heap_old _ _ (heap_old _ _ (heap_new _ _ (by omega)))
 have n0 : w6.heap[w.heap.size + 1 + 1]? = some (.cells #[.slice va l.length vc] 35) := hw6 ▸ heap_old _ _ (heap_new _ _ (by simp; omega))
 have n1 : w6.heap[w.heap.size + 1 + 1 + 1]? = some (.cells #[.func (.func 149) #[] #[.pointer (some ⟨w.heap.size, 0, none⟩)]] 159) := hw6 ▸ heap_new _ _ (by simp; omega)
 have hPL : PL (d := l) 21 (fun p : List Cel => wrapO (lvBit 0 (p.headD default)) (gr (bitsK 3) p)) w1 (w.heap.size + 1) w6.heap.size [] w6 := ⟨_, m0, RwX.nil _ _ _ _ _, .inl rfl, hb6, Nat.le_refl _⟩
 have N0 := Lib.hid (And.intro n0 n1)
 have hZB : w.heap.size + 1 < w6.heap.size := by omega
 have HZ6 := Lib.hid (And.intro hz6 hz1)
 have hB1 : w1.heap.size ≤ w.heap.size + 1 := by omega
 have hB2 : w.heap.size + 1 < w.heap.size + 1 + 1 := Nat.lt_succ_self _
 have hB3 := hZB
 have hwZ := hb6.size
 have hww := HBW.out.size
 clear hw6 m0 n0 n1 hz6 hw1 hz1
 refine rangeFunc_slotB rfl (by omega) (gf := 147) (lb := #[.pointer (some ⟨w.heap.size + 1 + 1, 0, none⟩), .pointer (some ⟨w.heap.size + 1 + 1 + 1, 0, none⟩)]) rfl trivial (enters_of Tryz.func147 (by kernel_rfl) rfl)
  (encs := partEnc (d := l) va vc 3) (n₀ := w1.heap.size) (base := w.heap.size + 1 + 1) (top := w6.heap.size) (S := fun ys => ys.map (fun y => cutP l y.1) = partsBy (bitR 0) l) (Sp := fun _ => True) (N := l.length) (w0 := w6) ?seq hb6.size (Below.refl _ _) (fun _ => rfl)
  (PL 21 (fun p : List Cel => wrapO (lvBit 0 (p.headD default)) (gr (bitsK 3) p)) w1 (w.heap.size + 1) w6.heap.size) (pl_own hb6.size) hPL ?act ?assign ?body ?done
 case seq =>
  intro l' J Jx W hW hJ _ hY h0
  exact parts1_styled 5 l' (w.heap.size + 1 + 1) (w.heap.size + 1 + 1 + 1) (w.heap.size + 1 + 1) w6.heap.size w.heap.size va vc l (bitR 0) S J Jx w1 W (HV.out.below (rdOf_stable _) HBW.out) (hb6.trans (hW.mono hb6.size)) (fun X hX x y => al_bit x y w.heap.size 0 (by omega) X (heap_below hX HBB.out)) ⟨by omega, by omega⟩ (by have := HZ6.out; omega) (heap_below hW N0.out.1) (heap_below hW N0.out.2) (by omega) hJ hY h0
 case assign =>
  intro l' pre x W K hI hK
  rw [show partEnc va vc 3 x = #[partV va vc 3 x.1] from rfl]
  gi_wp2
  exact hK
 case body =>
  intro l' pre x W hI hlt
  obtain ⟨v0, hD, hRW, hne, hb, hzW⟩ := hI
  have hpr := part_cels HV.out x
  have hpn := cut_ne x
  have hpz := cut_len x
  obtain ⟨P, hP⟩ : ∃ P, cutP l x.1 = P := ⟨_, rfl⟩
  have HT : Hid ((pre ++ [x]).flatMap (fun y => (fun p : List Cel => wrapO (lvBit 0 (p.headD default)) (gr (bitsK 3) p)) (cutP l y.1)) = pre.flatMap (fun y => (fun p : List Cel => wrapO (lvBit 0 (p.headD default)) (gr (bitsK 3) p)) (cutP l y.1)) ++ (fun p : List Cel => wrapO (lvBit 0 (p.headD default)) (gr (bitsK 3) p)) P) := Lib.hid (by rw [List.flatMap_append, ← hP]; simp)
  rw [hP] at hpr hpn hpz
  obtain ⟨pa, pc, hpe, hpl, hpm, hpx⟩ := cels_shape hpr
  rw [hpe]
  rw [hpe] at hpr
  obtain ⟨c, P', rfl⟩ : ∃ c P', P = c :: P' := by cases P with | nil => exact absurd rfl hpn | cons c P' => exact ⟨c, P', rfl⟩
  obtain ⟨bb, oo, e, hbz, c0, c1, c2⟩ := hpx 0 c rfl
  subst e
  simp only [Nat.zero_mul, Nat.add_zero] at c0 c1 c2
  obtain ⟨xs, hxs⟩ : ∃ xs, pre.flatMap (fun y : PartX l => (fun p : List Cel => wrapO (lvBit 0 (p.headD default)) (gr (bitsK 3) p)) (cutP l y.1)) = xs := ⟨_, rfl⟩
  have hxl0 : xs.length ≤ pre.length * 6000 := by
   rw [← hxs]
   exact flat_le_all _ 6000 pre (fun y => Nat.le_trans ((fun y => wrapO_len _ (cut_ne y) (gr_len _ _)) y) (Nat.le_trans (cut_len y) hlen))
  have hxl1 : pre.length * 6000 ≤ 6000 * 6000 := Nat.mul_le_mul_right _ (by omega)
  have hxl2 : xs.length ≤ 36000000 := by omega
  clear hxl1
  rw [hxs] at hRW hne HT
  have HRB := Lib.hid (rowx_block hRW hne)
  obtain ⟨sv, sc, hv0⟩ := hRW.slice
  subst hv0
  have HRW : Hid (∀ X, Below W.heap.size W X → RwX 25 4 (rdNod true 21) X w6.heap.size (.slice sv xs.length sc) xs) := Lib.hid fun X hX => RwX.below (rdNod_stable _ _) hRW (.all (by exact ⟨hX.os, hX.tape, hX.output, hX.size, fun b hz => hX.block b hz⟩))
  have HBO : Hid (∀ X, Below W.heap.size W X → X.heap[w.heap.size + 1]? = some (.cells #[.slice sv xs.length sc] 23)) := Lib.hid fun X hX => heap_below hX hD
  have HNE := Lib.hid hne
  have HIN := Lib.hid (And.intro hb hzW)
  have HPR := Lib.hid hpr
  obtain ⟨q0, g0⟩ := blk hD
  have i0 : (0 : Int) < (((c :: P').length : Nat) : Int) := by simp only [List.length_cons]; omega
  have hb0 : Below W.heap.size W W.drew := (Below.refl _ _).drew
  clear hpx hP hpn hRW hne hxs hxl0 hpr
  have HT : Hid ((pre ++ [x]).flatMap (fun y => wrapO (lvBit 0 ((cutP l y.1).headD default)) (gr (bitsK 3) (cutP l y.1))) = xs ++ wrapO (lvBit 0 c) (gr (bitsK 3) (c :: P'))) := HT
  have hgl := gr_len (bitsK 3) (c :: P')
  have hwl := wrapO_len (lvBit 0 c) (p := c :: P') (by simp) hgl
  have HGN : Hid (wrapO (lvBit 0 c) (gr (bitsK 3) (c :: P')) ≠ []) := Lib.hid (wrapO_ne (gr_ne _ (by simp)))
  have hgf := gr_fit (bitsK 3) (c :: P') (by omega) (bitsK_fit 3)
  have HS : Hid (∀ X, Below W.heap.size W X → Calls Tryz.prog 136 #[.slice (some ⟨bb, oo, none⟩) (c :: P').length pc, .int .i64 2] X fun e X' => ∃ sa sc, e = .returned (.slice sa (gr (bitsK 3) (c :: P')).length sc) ∧ NodsR true 16 X' (fun b => X.heap.size ≤ b) (.slice sa (gr (bitsK 3) (c :: P')).length sc) (gr (bitsK 3) (c :: P')) ∧ Below X.heap.size X X') := Lib.hid fun X hX => by
   refine (HSt.out _ _ X w S HPR.out (HBW.out.trans ((hb.trans (hX.mono hb.size)).mono hww)) (by omega)).mono ?_
   rintro e X' ⟨v', h1, h2, h3⟩
   obtain ⟨sa, sc, rfl⟩ := h2.slice
   exact ⟨sa, sc, h1, h2, h3⟩
  have HWr : Hid (∀ X X0 sa sc, NodsR true 16 X (fun b => X0 ≤ b) (.slice sa (gr (bitsK 3) (c :: P')).length sc) (gr (bitsK 3) (c :: P')) → Calls Tryz.prog 135 #[.int .i64 (bits .and .i64 c.bits 1), .string ⟨#[]⟩, .slice sa (gr (bitsK 3) (c :: P')).length sc] X fun e X' => ∃ sa sc, e = .returned (.slice sa (wrapO (lvBit 0 c) (gr (bitsK 3) (c :: P'))).length sc) ∧ NodsR true 21 X' (fun b => X.heap.size ≤ b) (.slice sa (wrapO (lvBit 0 c) (gr (bitsK 3) (c :: P'))).length sc) (wrapO (lvBit 0 c) (gr (bitsK 3) (c :: P'))) ∧ Below X.heap.size X X') := Lib.hid fun X X0 sa sc hk => by
   refine (wrap_high 16 (bits .and .i64 c.bits 1) [] _ _ true X X _ hk (Below.refl _ _) (by omega) hgf).mono ?_
   rintro e X' ⟨v', h', h1, h2, h3, h4⟩
   have ew : wrapN (bits .and .i64 c.bits 1) [] (gr (bitsK 3) (c :: P')) = wrapO (lvBit 0 c) (gr (bitsK 3) (c :: P')) := wrap_bit 0 (by omega) c _
   rw [ew] at h2
   have h2 := nods_mono' h4 h2
   obtain ⟨sa, sc, rfl⟩ := h2.slice
   exact ⟨sa, sc, h1, h2, h3⟩
  have hxl : xs.length + (wrapO (lvBit 0 c) (gr (bitsK 3) (c :: P'))).length ≤ 100000000 := by omega
  have HAA : Hid (∀ X, Below w1.heap.size w1 X → X.cell? ⟨bb, oo + 1, none⟩ = some (.int .i64 c.bits) ∧ X.cell? ⟨w.heap.size, 0, none⟩ = some (.int .i64 1)) := Lib.hid fun X hX => ⟨(hX.cell (p := ⟨bb, oo + 1, none⟩) (by show bb < w1.heap.size; omega)).trans ((HBW.out.cell (p := ⟨bb, oo + 1, none⟩) hbz).trans c1), by rw [(blk (heap_below hX HBB.out)).1 0]; rfl⟩
  have HAX : Hid (∀ X, Below W.heap.size W X → X.cell? ⟨bb, oo + 1, none⟩ = some (.int .i64 c.bits) ∧ X.cell? ⟨w.heap.size, 0, none⟩ = some (.int .i64 1)) := Lib.hid fun X hX => HAA.out X (hb.trans (hX.mono hb.size))
  have HAY : Hid (∀ X, Below W.heap.size W X → ∀ Y, (X.cell? ⟨bb, oo + 1, none⟩ = some (.int .i64 c.bits) ∧ X.cell? ⟨w.heap.size, 0, none⟩ = some (.int .i64 1)) → Below w6.heap.size X Y → Y.cell? ⟨bb, oo + 1, none⟩ = some (.int .i64 c.bits) ∧ Y.cell? ⟨w.heap.size, 0, none⟩ = some (.int .i64 1)) := Lib.hid fun X hX Y h hY => ⟨(hY.cell (p := ⟨bb, oo + 1, none⟩) (by show bb < w6.heap.size; omega)).trans h.1, (hY.cell (p := ⟨w.heap.size, 0, none⟩) (by show w.heap.size < w6.heap.size; omega)).trans h.2⟩
  have hbo : w.heap.size + 1 ≠ bb := by omega
  have hbo2 : w.heap.size + 1 ≠ w.heap.size := by omega
  generalize gr (bitsK 3) (c :: P') = G0 at *
  generalize hGG : wrapO (lvBit 0 c) G0 = G at *
  clear hgl hwl hgf hGG hb HV
  gi_wp2_with fail
  refine wpIn_region_T (fun w' => w'.cell? ⟨bb, oo + 1, none⟩ = some (.int .i64 c.bits) ∧ w'.cell? ⟨w.heap.size, 0, none⟩ = some (.int .i64 1)) (fun w' => w'.cell? ⟨w.heap.size + 1, 0, none⟩ = some (.slice sv xs.length sc)) 13 (by kernel_rfl) (by kernel_rfl) (fun R hR => ?_)
  refine anyT_takeA (i := 1) (v := ?_) (by simp only [qA, qS, qZ]; rfl) (by kernel_rfl) (by kernel_rfl) (by kernel_rfl) (by kernel_rfl) (fun _ _ _ h => h) (Or.inl ⟨by rfl, ?_⟩) (HAX.out _ hb0) (Or.inr (by rw [(blk (HBO.out _ hb0)).1 0]; rfl)) ?_
  rotate_left 1
  ·intro w hSw; (try dsimp only at hSw); go_simp; (first | done | with_reducible rfl)
  try simp only [Act.put, qI, qX, qY]
  refine anyT_takeA (i := 2) (v := ?_) (by simp only [qA, qS, qZ]; rfl) (by kernel_rfl) (by kernel_rfl) (by kernel_rfl) (by kernel_rfl) (fun _ _ _ h => h) (Or.inl ⟨by rfl, ?_⟩) (HAX.out _ hb0) (Or.inr (by rw [(blk (HBO.out _ hb0)).1 0]; rfl)) ?_
  rotate_left 1
  ·intro w hSw; (try dsimp only at hSw); go_simp; (first | done | with_reducible rfl)
  try simp only [Act.put, qI, qX, qY]
  refine anyT_takeA (i := 3) (v := ?_) (by simp only [qA, qS, qZ]; rfl) (by kernel_rfl) (by kernel_rfl) (by kernel_rfl) (by kernel_rfl) (fun _ _ _ h => h) (Or.inl ⟨by rfl, ?_⟩) (HAX.out _ hb0) (Or.inr (by rw [(blk (HBO.out _ hb0)).1 0]; rfl)) ?_
  rotate_left 1
  ·intro w hSw; (try dsimp only at hSw); go_simp; (first | done | with_reducible rfl)
  try simp only [Act.put, qI, qX, qY]
  refine anyT_takeA (i := 4) (v := ?_) (by simp only [qA, qS, qZ]; rfl) (by kernel_rfl) (by kernel_rfl) (by kernel_rfl) (by kernel_rfl) (fun _ _ _ h => h) (Or.inl ⟨by rfl, ?_⟩) (HAX.out _ hb0) (Or.inr (by rw [(blk (HBO.out _ hb0)).1 0]; rfl)) ?_
  rotate_left 1
  ·intro w hSw; (try dsimp only at hSw); go_simp; (first | done | with_reducible rfl)
  try simp only [Act.put, qI, qX, qY]
  refine anyT_takeA (i := 5) (v := ?_) (by simp only [qA, qS, qZ]; rfl) (by kernel_rfl) (by kernel_rfl) (by kernel_rfl) (by kernel_rfl) (fun _ _ _ h => h) (Or.inl ⟨by rfl, ?_⟩) (HAX.out _ hb0) (Or.inr (by rw [(blk (HBO.out _ hb0)).1 0]; rfl)) ?_
  rotate_left 1
  ·intro w hSw; (try dsimp only at hSw); go_simp; (first | done | with_reducible rfl)
  try simp only [Act.put, qI, qX, qY]
  refine anyT_takeA (i := 6) (v := ?_) (by simp only [qA, qS, qZ]; rfl) (by kernel_rfl) (by kernel_rfl) (by kernel_rfl) (by kernel_rfl) (fun _ _ _ h => h) (Or.inl ⟨by rfl, ?_⟩) (HAX.out _ hb0) (Or.inr (by rw [(blk (HBO.out _ hb0)).1 0]; rfl)) ?_
  rotate_left 1
  ·intro w hSw; (try dsimp only at hSw); go_simp; (first | done | with_reducible rfl)
  try simp only [Act.put, qI, qX, qY]
  refine anyT_takeA (i := 7) (v := ?_) (by simp only [qA, qS, qZ]; rfl) (by kernel_rfl) (by kernel_rfl) (by kernel_rfl) (by kernel_rfl) (fun _ _ _ h => h) (Or.inl ⟨by rfl, ?_⟩) (HAX.out _ hb0) (Or.inr (by rw [(blk (HBO.out _ hb0)).1 0]; rfl)) ?_
  rotate_left 1
  ·intro w hSw; (try dsimp only at hSw); go_simp; (first | done | with_reducible rfl)
  try simp only [Act.put, qI, qX, qY]
  refine anyT_takeA (i := 8) (v := ?_) (by simp only [qA, qS, qZ]; rfl) (by kernel_rfl) (by kernel_rfl) (by kernel_rfl) (by kernel_rfl) (fun _ _ _ h => h) (Or.inl ⟨by rfl, ?_⟩) (HAX.out _ hb0) (Or.inr (by rw [(blk (HBO.out _ hb0)).1 0]; rfl)) ?_
  rotate_left 1
  ·intro w hSw; (try dsimp only at hSw); go_simp; (first | done | with_reducible rfl)
  try simp only [Act.put, qI, qX, qY]
  refine anyT_takeA (i := 9) (v := ?_) (by simp only [qA, qS, qZ]; rfl) (by kernel_rfl) (by kernel_rfl) (by kernel_rfl) (by kernel_rfl) (fun _ _ _ h => h) (Or.inl ⟨by rfl, ?_⟩) (HAX.out _ hb0) (Or.inr (by rw [(blk (HBO.out _ hb0)).1 0]; rfl)) ?_
  rotate_left 1
  ·intro w hSw; (try dsimp only at hSw); go_simp; (first | done | with_reducible rfl)
  try simp only [Act.put, qI, qX, qY]
  refine anyT_take (i := 0) (v := ?_) (by simp only [qA, qZ]; rfl) (by kernel_rfl) (by kernel_rfl) (by kernel_rfl) (by kernel_rfl) (fun _ _ _ h => h) (Or.inl ⟨by rfl, ?_⟩) ⟨HAX.out _ hb0, by rw [(blk (HBO.out _ hb0)).1 0]; rfl⟩ ?_
  rotate_left 1
  ·intro w hSw; (try dsimp only at hSw); go_simp; (first | done | with_reducible rfl)
  try simp only [Act.put, qI, qX, qY]
  refine anyT_ready (rs := [10]) (by kernel_rfl) (by simp) ?_
  refine AllReadyT.cons (by simp only [qA, qS, qZ]; rfl) (fun K hK => ?_) AllReadyT.nil
  go_simp
  refine (HS.out _ hb0).mono ?_
  rintro e x1 ⟨sa1, sc1, rfl, hk1, hst1⟩
  have HK1 := Lib.hid hk1
  clear hk1
  have hb1 : Below W.heap.size W x1 := below_from hb0 hst1
  refine hK.out _ _ (HAX.out _ hb1) (Or.inr (by rw [(blk (HBO.out _ hb1)).1 0]; rfl)) ?_
  clear hK K
  try simp only [Act.put, qI, qX, qY]
  refine anyT_ready (rs := [11]) (by kernel_rfl) (by simp) ?_
  refine AllReadyT.cons (by simp only [qA, qS, qZ]; rfl) (fun K hK => ?_) AllReadyT.nil
  go_simp
  refine (HWr.out _ _ _ _ HK1.out).mono ?_
  rintro e x2 ⟨sa2, sc2, rfl, hk2, hst2⟩
  have HK2 := Lib.hid hk2
  clear hk2
  have hb2 : Below W.heap.size W x2 := below_from hb1 hst2
  refine hK.out _ _ (HAX.out _ hb2) (Or.inr (by rw [(blk (HBO.out _ hb2)).1 0]; rfl)) ?_
  clear hK K
  try simp only [Act.put, qI, qX, qY]
  refine anyT_ready (rs := [12]) (by kernel_rfl) (by simp) ?_
  refine AllReadyT.cons (by simp only [qA, qS, qZ]; rfl) (fun K hK => ?_) AllReadyT.nil
  have hbs3 := hb2.size
  have HRX3 := HRW.out _ hb2
  have HRY3 := HRW.out _ hb1
  have hsz3 : w6.heap.size ≤ x2.heap.size := Nat.le_trans HIN.out.2 hb2.size
  have hsy3 : w6.heap.size ≤ x1.heap.size := Nat.le_trans HIN.out.2 hb1.size
  obtain ⟨news3, hsrc3, hnews3⟩ := SliceR.src (P := Tryz.prog) (st := 23) rowNod (eltNod 21).pos (eltNod 21).ones HK2.out
  (refine step_append_X (by rfl) _ _ 23 23 (by rfl) rowNod (eltNod 21) w6.heap.size (.slice sv xs.length sc) _ (xs := xs) (ys := G) (news := news3) (by rfl) (by rfl) HRX3 hsz3 hsrc3 (news_apart (rdNod_stable _ _) HRY3 hsy3 hnews3) hxl ?_)
  intro va3 y3 hra3 hba3 hga3 _
  obtain ⟨wa3, wn3, wc3, hwe3⟩ : ∃ a n c, va3 = .slice a n c := by obtain ⟨a, c, e⟩ := hra3.slice; exact ⟨a, _, c, e⟩
  subst hwe3
  have HRA3 := Lib.hid hra3
  have HGA3 := Lib.hid hga3
  clear hra3 hga3 hsrc3 hnews3
  have hob3 : y3.heap[(w.heap.size + 1)]? = some (.cells #[.slice sv xs.length sc] 23) := (hba3.block _ (by have := hZB; have := hbs3; omega)).trans (HBO.out _ hb2)
  obtain ⟨qo3, fo3⟩ := blk hob3
  have ha3 := HAY.out _ hb2 y3 (HAX.out _ hb2) hba3
  refine hK.out _ _ (ha3) (Or.inr (by rw [qo3 0]; rfl)) ?_
  clear hK K
  try simp only [Act.put, qI, qX, qY]
  refine anyT_ready (rs := [13]) (by kernel_rfl) (by simp) ?_
  refine AllReadyT.cons (by simp only [qA, qS, qZ]; rfl) (fun K hK => ?_) AllReadyT.nil
  go_simp
  refine hK.out _ _ (⟨(setCell_block hbo).trans ha3.1, (setCell_block hbo2).trans ha3.2⟩) (Or.inl (by kernel_rfl)) ?_
  clear hK K
  try simp only [Act.put, qI, qX, qY]
  refine anyT_done (by kernel_rfl) ?_ _
  refine hR.out _ _ ?_
  have hfin := put_row (F := (fun p : List Cel => wrapO (lvBit 0 (p.headD default)) (gr (bitsK 3) p))) HIN.out.1 HIN.out.2 hB1 hB2 hB3 hwZ hb2 HRA3.out hba3 HGA3.out HRX3 HNE.out HGN.out hob3 HT.out
  gi_wp2_with fail
  exact ⟨hfin.1 _, hfin.2⟩
 case done =>
  rintro D ys W hD hys ⟨v9, t0, hR, hne, hb, hz⟩ hK
  have e : (ys.flatMap fun y : PartX l => (fun p : List Cel => wrapO (lvBit 0 (p.headD default)) (gr (bitsK 3) p)) (cutP l y.1)) = gr (bitsK (3 + 1)) l := by
   rw [gr_bit 0 3 l rfl, ← hys, List.flatMap_map]
  rw [e] at hR
  have hrow := RwX.row (rdNod_stable _ _) ((rowx_own D w6.heap.size 21 v9 (fun _ : Unit => gr (bitsK (3 + 1)) l)).putObj (s := ()) (.deferred none) hR (Nat.le_refl _) hK rfl)
  obtain ⟨s0, s0f⟩ := blk t0
  obtain ⟨va9, c9, rfl⟩ := hR.slice
  have HROW := Lib.hid hrow
  have HB9 := Lib.hid hb
  have HK9 := Lib.hid hK
  clear hR hb hK hne hrow e
  generalize (gr (bitsK (3 + 1)) l).length = n9 at *
  gi_wp2_with fail
  refine ⟨by simp, .inl ⟨_, _, rfl, run_takeDeferred HK9.out, ?_⟩⟩
  refine ⟨.slice va9 n9 c9, by simp [results, Tryz.results136, go_sem], ?_⟩
  refine ⟨_, rfl, SliceR.stable (rdNod_stable _ _) HROW.out (Keeps.refl _ _) (fun b h _ => Nat.le_trans (Nat.le_trans hww hwZ) h), ?_⟩
  exact HBW.out.trans ((HB9.out.trans (belowK_b (w := w1) (Nat.le_refl _) W D _ _ (by omega) HK9.out rfl rfl)).mono hww)
theorem styled_any (v : Value) (l : List Cel) (w w0 : World) (S : Nat → Prop) (hv : CelsR false w0 S v l) (h0 : Below w0.heap.size w0 w) (hlen : l.length ≤ 6000) :
  Calls Tryz.prog 136 #[v, .int .i64 1] w fun e w' => ∃ v', e = .returned v' ∧ NodsR true 21 w' (fun b => w.heap.size ≤ b) v' (gr (bitsK 4) l) ∧ Below w.heap.size w w' :=
 styled_1 (styled_2 (styled_4 (styled_8 styled_16))) v l w w0 S hv h0 hlen
theorem row_any (v : Value) (l : List Cel) (w w0 : World) (S : Nat → Prop) (hv : CelsR false w0 S v l) (h0 : Below w0.heap.size w0 w) (hlen : l.length ≤ 6000) :
  Calls Tryz.prog 120 #[v] w fun e w' => ∃ v', e = .returned v' ∧ NodsR true 26 w' (fun b => w.heap.size ≤ b) v' (gr rowK l) ∧ Below w.heap.size w w' := row_of styled_any v l w w0 S hv h0 hlen
end Go.Proofs.YtjpgffihafknlaaGreatDoor
namespace Go.Proofs.Qw
open Go.RowKit Go.Proofs.YtjpgffihafknlaaGreatDoor
theorem host_len (leaf : Lin → Nod) : ∀ (n lv : Nat) (d : List Lin), (hostL leaf n lv d).length ≤ d.length
 | 0, _, d => by unfold hostL; simp
 | n + 1, lv, d => by
  unfold hostL
  have h := parts_sum (stepR lv) d
  have h1 := flat_le (fun p : List Lin => if stepL lv (p.headD default) ≠ 0 then [Nod.mk (stepL lv (p.headD default)) [] [] (hostL leaf n (lv + 1) p)] else [leaf (p.headD default)]) List.length (partsBy (stepR lv) d) (fun p hp => by
   have hpos := List.length_pos_iff.2 (parts_ne _ d.length d (Nat.le_refl _) p hp)
   split
   ·simp only [List.length_singleton]; omega
   ·simp only [List.length_singleton]; omega)
  omega
theorem line_fit {l : Lin} (h : l.cells.length ≤ 1000000) : FitN (lineN (gr rowK) l) := ⟨by simp, Nat.le_trans (gr_len _ _) h, gr_fit rowK l.cells h rowK_fit⟩
theorem host_fit : ∀ (n lv : Nat) (d : List Lin), d.length ≤ 1000000 → (∀ l ∈ d, l.cells.length ≤ 1000000) → FitK (hostL (lineN (gr rowK)) n lv d)
 | 0, _, d, _, hd => by
  unfold hostL
  exact fitK_of fun n hn => by
   obtain ⟨l, hl, rfl⟩ := List.mem_map.1 hn
   exact line_fit (hd l hl)
 | n + 1, lv, d, hl, hd => by
  unfold hostL
  refine fitK_of fun x hx => ?_
  obtain ⟨p, hp, hx⟩ := List.mem_flatMap.1 hx
  have hpl := part_len hp
  have hsub : ∀ l ∈ p, l ∈ d := fun l hl => by
   have := parts_flat (stepR lv) d.length d (Nat.le_refl _)
   rw [← this]
   exact List.mem_flatten.2 ⟨p, hp, hl⟩
  split at hx
  ·have hx : x = .mk (stepL lv (p.headD default)) [] [] (hostL (lineN (gr rowK)) n (lv + 1) p) := by simpa using hx
   subst hx
   have := host_len (lineN (gr rowK)) n (lv + 1) p
   exact ⟨by simp, by omega, host_fit n (lv + 1) p (by omega) (fun l hl => hd l (hsub l hl))⟩
  ·have hx : x = lineN (gr rowK) (p.headD default) := by simpa using hx
   subst hx
   have hne := parts_ne _ d.length d (Nat.le_refl _) p hp
   cases p with
   | nil => exact absurd rfl hne
   | cons a p => exact line_fit (hd a (hsub a (by simp)))
end Go.Proofs.Qw
namespace Go.Proofs.YtjpgffihafknlaaGreatDoor
open Go.RowKit
open Go.Proofs.Qw
attribute [local go_sem ↓] Go.wp_at_zero Go.wp_at_succ
set_option maxHeartbeats 1000000 in
theorem tagsLine_ok (k : Int) (h0 : 0 ≤ k) (h3 : k ≤ 3) (w : World) : Calls Tryz.prog 119 #[.int .i64 k] w fun e w' => e = .returned (.tuple #[.int .i64 (k + 2), .bool true]) ∧ w' = w := by
 have e1 : decide (k < 0) = false := by simp; omega
 have e2 : decide (3 < k) = false := by simp; omega
 have e3 : IntKind.i64.wrap (2 + k) = k + 2 := by rw [IntKind.wrap_i64]; omega
 go_enter Tryz.func119, Tryz.ntmps119
 go_wp2
 go_ret2
 exact ⟨by simp, rfl⟩
set_option maxRecDepth 100000 in
set_option maxHeartbeats 4000000 in
theorem node_any (l : Lin) (la : Option Addr) (lc : Nat) (ca : Option Addr) (cc : Nat) (w w0 : World) (S : Nat → Prop) (hc : CelsR false w0 S (.slice ca l.cells.length cc) l.cells) (h0 : Below w0.heap.size w0 w) (hk0 : 0 ≤ l.kind) (hk3 : l.kind ≤ 3) (hcl : l.cells.length ≤ 6000) :
  Calls Tryz.prog 91 #[.agg #[.int .i64 l.quote, .slice la l.lists.length lc, .int .i64 l.kind, .slice ca l.cells.length cc]] w fun e w' => ∃ k', e = .returned (nodV (lineN (gr rowK) l) (.slice none 0 0) k') ∧ NodsR true 26 w' (fun b => w.heap.size ≤ b) k' (gr rowK l.cells) ∧ Below w.heap.size w w' := by
 have HR : Hid (∀ X, Below w.heap.size w X → Calls Tryz.prog 120 #[.slice ca l.cells.length cc] X fun e X' => ∃ ka kc, e = .returned (.slice ka (gr rowK l.cells).length kc) ∧ NodsR true 26 X' (fun b => X.heap.size ≤ b) (.slice ka (gr rowK l.cells).length kc) (gr rowK l.cells) ∧ Below X.heap.size X X') := Lib.hid fun X hX => (row_any _ l.cells X w0 S hc (below_from h0 hX) hcl).mono fun _ _ ⟨v', h1, h2, h3⟩ => by
  obtain ⟨ka, kc, rfl⟩ := h2.slice
  exact ⟨ka, kc, h1, h2, h3⟩
 have hgl := gr_len rowK l.cells
 have hgf := gr_fit rowK l.cells (by omega) rowK_fit
 have HE : Hid (∀ X X0 ka kc (t : Int), NodsR true 26 X (fun b => X0 ≤ b) (.slice ka (gr rowK l.cells).length kc) (gr rowK l.cells) → Calls Tryz.prog 58 #[.int .i64 t, .slice ka (gr rowK l.cells).length kc] X fun e X' => ∃ ka kc, e = .returned (.agg #[.int .i64 t, .slice none 0 0, .string ⟨#[]⟩, .slice ka (gr rowK l.cells).length kc]) ∧ NodsR true 26 X' (fun b => X.heap.size ≤ b) (.slice ka (gr rowK l.cells).length kc) (gr rowK l.cells) ∧ Below X.heap.size X X') := Lib.hid fun X X0 ka kc t hk => (elem_any 26 t _ _ true X X _ hk (Below.refl _ _) (by omega) hgf).mono fun _ _ ⟨k', h1, h2, h3⟩ => by
  obtain ⟨ka, kc, rfl⟩ := h2.slice
  exact ⟨ka, kc, h1, h2, h3⟩
 have HT := Lib.hid (fun X => tagsLine_ok l.kind hk0 hk3 X)
 obtain ⟨W1, hW1, hB, hz, hB0, hB1⟩ : ∃ W1, (w.alloc (.cells #[.int .i64 l.quote, .slice la l.lists.length lc, .int .i64 l.kind, .slice ca l.cells.length cc] 37)).alloc (.cells #[.int .i64 0, .slice none 0 0, .string ⟨#[]⟩, .slice none 0 0] 25) = W1 ∧ Below w.heap.size w W1 ∧ w.heap.size + 2 = W1.heap.size ∧ W1.heap[w.heap.size]? = some (.cells #[.int .i64 l.quote, .slice la l.lists.length lc, .int .i64 l.kind, .slice ca l.cells.length cc] 37) ∧ W1.heap[w.heap.size + 1]? = some (.cells #[.int .i64 0, .slice none 0 0, .string ⟨#[]⟩, .slice none 0 0] 25) :=
  ⟨_, rfl, ((Below.refl _ _).alloc (Nat.le_refl _) _).alloc (by simp) _, by simp, heap_old _ _ (heap_new _ _ rfl), heap_new _ _ (by simp)⟩
 have H1 := Lib.hid hB1
 have HB := Lib.hid hB
 have HZ := Lib.hid hz
 obtain ⟨p0, f0⟩ := blk hB0
 obtain ⟨p1, f1⟩ := blk hB1
 generalize hG : gr rowK l.cells = G at *
 have HN : Hid (lineN (gr rowK) l = .mk (if l.lists ≠ [] then 9 else l.kind + 2) [] [] G) := Lib.hid (by unfold lineN; rw [hG])
 clear hc h0 hgl hgf hG hz hB hB1
 have HNp : Hid (0 < l.lists.length → lineN (gr rowK) l = .mk 9 [] [] G) := Lib.hid fun hl => by rw [HN.out, if_pos (fun e => by rw [e] at hl; cases hl)]
 have HNn : Hid (¬ 0 < l.lists.length → lineN (gr rowK) l = .mk (l.kind + 2) [] [] G) := Lib.hid fun hl => by rw [HN.out, if_neg (fun e => e (List.length_eq_zero_iff.1 (by omega)))]
 generalize l.lists.length = ln at *
 by_cases hl : 0 < ln
 ·have hd : decide (0 < (ln : Int)) = true := decide_eq_true (by omega)
  have hd2 : decide (0 < ln) = true := decide_eq_true hl
  rw [HNp.out hl]
  go_enter Tryz.func91, Tryz.ntmps91
  go_wp2_with (first
   | (go_at_call 119; refine (HT.out _).mono ?_; rintro e w2 ⟨rfl, hw2⟩; subst hw2)
   | (go_at_call 120; refine (HR.out _ HB.out).mono ?_; rintro e w3 ⟨ka, kc, rfl, hk3', hb3⟩; have HK3 := Lib.hid hk3'; clear hk3')
   | (go_at_call 58; refine (HE.out _ _ _ _ _ HK3.out).mono ?_; rintro e w4 ⟨ka4, kc4, rfl, hk4, hb4⟩; have HK4 := Lib.hid hk4; clear hk4; have hb34 := below_from hb3 hb4; have hB4 := heap_below hb34 H1.out; obtain ⟨q1, g1⟩ := blk hB4))
  have z := HZ.out
  have hz3 := hb3.size
  have hz4 := hb4.size
  refine bodyPost_ret (results_node rfl _ _ (w.heap.size + 1) (.int .i64 9) (.slice none 0 0) (.string ⟨#[]⟩) (.slice ka4 G.length kc4) rfl (by simp [heap_set, putIn, hB4])) rfl ?_
  refine ⟨_, rfl, HK4.out.stable (rdNod_stable _ _) (((((Keeps.refl _ _).set (by simp; omega) _).set (by simp; omega) _).set (by simp; omega) _).set (by simp; omega) _) (fun b h _ => ?_), ?_⟩
  ·have h : w3.heap.size ≤ b := h
   show w.heap.size ≤ b
   omega
  ·have hbb := HB.out.trans (hb34.mono (by omega))
   exact (((hbb.setCell (by simp) _).setCell (by simp) _).setCell (by simp) _).setCell (by simp) _
 ·have hd : decide (0 < (ln : Int)) = false := decide_eq_false (by omega)
  have hd2 : decide (0 < ln) = false := decide_eq_false hl
  rw [HNn.out hl]
  go_enter Tryz.func91, Tryz.ntmps91
  go_wp2_with (first
   | (go_at_call 119; refine (HT.out _).mono ?_; rintro e w2 ⟨rfl, hw2⟩; subst hw2)
   | (go_at_call 120; refine (HR.out _ HB.out).mono ?_; rintro e w3 ⟨ka, kc, rfl, hk3', hb3⟩; have HK3 := Lib.hid hk3'; clear hk3')
   | (go_at_call 58; refine (HE.out _ _ _ _ _ HK3.out).mono ?_; rintro e w4 ⟨ka4, kc4, rfl, hk4, hb4⟩; have HK4 := Lib.hid hk4; clear hk4; have hb34 := below_from hb3 hb4; have hB4 := heap_below hb34 H1.out; obtain ⟨q1, g1⟩ := blk hB4))
  have z := HZ.out
  have hz3 := hb3.size
  have hz4 := hb4.size
  refine bodyPost_ret (results_node rfl _ _ (w.heap.size + 1) (.int .i64 (l.kind + 2)) (.slice none 0 0) (.string ⟨#[]⟩) (.slice ka4 G.length kc4) rfl (by simp [heap_set, putIn, hB4])) rfl ?_
  refine ⟨_, rfl, HK4.out.stable (rdNod_stable _ _) (((((Keeps.refl _ _).set (by simp; omega) _).set (by simp; omega) _).set (by simp; omega) _).set (by simp; omega) _) (fun b h _ => ?_), ?_⟩
  ·have h : w3.heap.size ≤ b := h
   show w.heap.size ≤ b
   omega
  ·have hbb := HB.out.trans (hb34.mono (by omega))
   exact (((hbb.setCell (by simp) _).setCell (by simp) _).setCell (by simp) _).setCell (by simp) _
end Go.Proofs.YtjpgffihafknlaaGreatDoor
namespace Go.Proofs.YtjpgffihafknlaaGreatDoor
open Go.RowKit
open Go.Proofs.Qw
attribute [local go_sem] Oper.semAt_some
theorem setRow_heap_ne2 (w : World) (g : Nat) (cs : Array Value) {b : Nat} (h : b ≠ g) : (w.setRow g cs).heap[b]? = w.heap[b]? := by
 unfold World.setRow
 simp only [Array.getElem?_modify]
 rw [if_neg (Ne.symm h)]
theorem setRow_below2 {n g : Nat} {w W : World} {cs : Array Value} (h : Below n w W) (hg : n ≤ g) : Below n w (W.setRow g cs) :=
 h.trans ⟨rfl, rfl, rfl, by simp [World.setRow], fun k hk => setRow_heap_ne2 _ _ _ (by omega)⟩
theorem results_tags {fn : Func} {p : Tmp} (h : fn.results = #[.cell p 115]) (tmps : Array Value) (w : World) (B : Nat) (vs : Array Value) (hp : tmps.getD p undef = .pointer (some ⟨B, 0, none⟩))
  (hB : w.heap[B]? = some (.cells vs 115)) (hs : (Tryz.prog.info? 115).map (·.size) = some vs.size) : (results fn tmps).run Tryz.prog w = .ok (.agg vs) w := by
 have h1 := run_loadVar_row (P := Tryz.prog) w B 115 115 _ _ _ hB Tryz.underlying115 rfl hs
 have hp' : tmps[p]?.getD undef = .pointer (some ⟨B, 0, none⟩) := by simpa using hp
 simp [results, h, hp', asAddr, h1]
def tagV (B1 B2 B3 B4 B5 B6 B7 B8 B9 B10 B11 B12 B13 B14 B15 B16 : Nat) : Array Value := #[.slice none 0 0, .int .i64 1, .slice (some ⟨B1, 0, none⟩) 1 1, .int .i64 2, .slice (some ⟨B2, 0, none⟩) 1 1, .int .i64 3, .slice (some ⟨B3, 0, none⟩) 1 1, .int .i64 3, .slice (some ⟨B4, 0, none⟩) 1 1, .int .i64 3, .slice (some ⟨B5, 0, none⟩) 1 1, .int .i64 3, .slice (some ⟨B6, 0, none⟩) 1 1, .int .i64 2, .slice (some ⟨B7, 0, none⟩) 1 1, .int .i64 2, .slice (some ⟨B8, 0, none⟩) 1 1, .int .i64 2, .slice (some ⟨B9, 0, none⟩) 1 1, .int .i64 3, .slice (some ⟨B10, 0, none⟩) 1 1, .int .i64 4, .slice (some ⟨B11, 0, none⟩) 2 2, .int .i64 4, .slice (some ⟨B12, 0, none⟩) 2 2, .int .i64 4, .slice (some ⟨B13, 0, none⟩) 2 2, .int .i64 4, .slice (some ⟨B14, 0, none⟩) 3 3, .int .i64 4, .slice (some ⟨B15, 0, none⟩) 1 1, .int .i64 4, .slice (some ⟨B16, 0, none⟩) 1 1, .int .i64 5]
set_option maxRecDepth 100000 in
set_option maxHeartbeats 4000000 in
theorem tagTab_ok (w : World) : Calls Tryz.prog 75 #[] w fun e w' => (∃ B1 B2 B3 B4 B5 B6 B7 B8 B9 B10 B11 B12 B13 B14 B15 B16, e = .returned (.agg (tagV B1 B2 B3 B4 B5 B6 B7 B8 B9 B10 B11 B12 B13 B14 B15 B16))) ∧ Below w.heap.size w w' := by
 go_enter Tryz.func75, Tryz.ntmps75
 go_upto_region 1 with fail
 generalize hW : World.alloc w _ = W0
 have hz : W0.heap[w.heap.size]? = some (.cells #[.slice none 0 0, .int .i64 0, .slice none 0 0, .int .i64 0, .slice none 0 0, .int .i64 0, .slice none 0 0, .int .i64 0, .slice none 0 0, .int .i64 0, .slice none 0 0, .int .i64 0, .slice none 0 0, .int .i64 0, .slice none 0 0, .int .i64 0, .slice none 0 0, .int .i64 0, .slice none 0 0, .int .i64 0, .slice none 0 0, .int .i64 0, .slice none 0 0, .int .i64 0, .slice none 0 0, .int .i64 0, .slice none 0 0, .int .i64 0, .slice none 0 0, .int .i64 0, .slice none 0 0, .int .i64 0, .slice none 0 0, .int .i64 0] 115) := hW ▸ heap_new _ _ rfl
 have hw0 : Below w.heap.size w W0 := hW ▸ (Below.refl _ _).alloc (Nat.le_refl _) _
 have hlt : w.heap.size < W0.heap.size := by rw [← hW]; simp
 clear hW
 have hb0 : Below W0.heap.size W0 W0 := Below.refl _ _
 refine wp_region_lit ?_
 refine wpList_build rfl _ _ rfl (by kernel_rfl) ?_
 try simp only [Act.put, qI, qX, qY]
 refine wpList_plain rfl fun K hK => ?_
 go_simp
 generalize hW1 : World.alloc W0 _ = W1
 have hb1 : Below W0.heap.size W0 W1 := hW1 ▸ hb0.alloc hb0.size _
 generalize hB1 : W0.heap.size = B1
 clear hW1 hB1
 refine hK _ _ ?_
 clear hK K
 try simp only [Act.put, qI, qX, qY]
 refine wpList_build rfl _ _ rfl (by kernel_rfl) ?_
 try simp only [Act.put, qI, qX, qY]
 refine wpList_plain rfl fun K hK => ?_
 go_simp
 generalize hW2 : World.alloc W1 _ = W2
 have hb2 : Below W0.heap.size W0 W2 := hW2 ▸ hb1.alloc hb1.size _
 generalize hB2 : W1.heap.size = B2
 clear hW2 hB2
 refine hK _ _ ?_
 clear hK K
 try simp only [Act.put, qI, qX, qY]
 refine wpList_build rfl _ _ rfl (by kernel_rfl) ?_
 try simp only [Act.put, qI, qX, qY]
 refine wpList_plain rfl fun K hK => ?_
 go_simp
 generalize hW3 : World.alloc W2 _ = W3
 have hb3 : Below W0.heap.size W0 W3 := hW3 ▸ hb2.alloc hb2.size _
 generalize hB3 : W2.heap.size = B3
 clear hW3 hB3
 refine hK _ _ ?_
 clear hK K
 try simp only [Act.put, qI, qX, qY]
 refine wpList_build rfl _ _ rfl (by kernel_rfl) ?_
 try simp only [Act.put, qI, qX, qY]
 refine wpList_plain rfl fun K hK => ?_
 go_simp
 generalize hW4 : World.alloc W3 _ = W4
 have hb4 : Below W0.heap.size W0 W4 := hW4 ▸ hb3.alloc hb3.size _
 generalize hB4 : W3.heap.size = B4
 clear hW4 hB4
 refine hK _ _ ?_
 clear hK K
 try simp only [Act.put, qI, qX, qY]
 refine wpList_build rfl _ _ rfl (by kernel_rfl) ?_
 try simp only [Act.put, qI, qX, qY]
 refine wpList_plain rfl fun K hK => ?_
 go_simp
 generalize hW5 : World.alloc W4 _ = W5
 have hb5 : Below W0.heap.size W0 W5 := hW5 ▸ hb4.alloc hb4.size _
 generalize hB5 : W4.heap.size = B5
 clear hW5 hB5
 refine hK _ _ ?_
 clear hK K
 try simp only [Act.put, qI, qX, qY]
 refine wpList_build rfl _ _ rfl (by kernel_rfl) ?_
 try simp only [Act.put, qI, qX, qY]
 refine wpList_plain rfl fun K hK => ?_
 go_simp
 generalize hW6 : World.alloc W5 _ = W6
 have hb6 : Below W0.heap.size W0 W6 := hW6 ▸ hb5.alloc hb5.size _
 generalize hB6 : W5.heap.size = B6
 clear hW6 hB6
 refine hK _ _ ?_
 clear hK K
 try simp only [Act.put, qI, qX, qY]
 refine wpList_build rfl _ _ rfl (by kernel_rfl) ?_
 try simp only [Act.put, qI, qX, qY]
 refine wpList_plain rfl fun K hK => ?_
 go_simp
 generalize hW7 : World.alloc W6 _ = W7
 have hb7 : Below W0.heap.size W0 W7 := hW7 ▸ hb6.alloc hb6.size _
 generalize hB7 : W6.heap.size = B7
 clear hW7 hB7
 refine hK _ _ ?_
 clear hK K
 try simp only [Act.put, qI, qX, qY]
 refine wpList_build rfl _ _ rfl (by kernel_rfl) ?_
 try simp only [Act.put, qI, qX, qY]
 refine wpList_plain rfl fun K hK => ?_
 go_simp
 generalize hW8 : World.alloc W7 _ = W8
 have hb8 : Below W0.heap.size W0 W8 := hW8 ▸ hb7.alloc hb7.size _
 generalize hB8 : W7.heap.size = B8
 clear hW8 hB8
 refine hK _ _ ?_
 clear hK K
 try simp only [Act.put, qI, qX, qY]
 refine wpList_build rfl _ _ rfl (by kernel_rfl) ?_
 try simp only [Act.put, qI, qX, qY]
 refine wpList_plain rfl fun K hK => ?_
 go_simp
 generalize hW9 : World.alloc W8 _ = W9
 have hb9 : Below W0.heap.size W0 W9 := hW9 ▸ hb8.alloc hb8.size _
 generalize hB9 : W8.heap.size = B9
 clear hW9 hB9
 refine hK _ _ ?_
 clear hK K
 try simp only [Act.put, qI, qX, qY]
 refine wpList_build rfl _ _ rfl (by kernel_rfl) ?_
 try simp only [Act.put, qI, qX, qY]
 refine wpList_plain rfl fun K hK => ?_
 go_simp
 generalize hW10 : World.alloc W9 _ = W10
 have hb10 : Below W0.heap.size W0 W10 := hW10 ▸ hb9.alloc hb9.size _
 generalize hB10 : W9.heap.size = B10
 clear hW10 hB10
 refine hK _ _ ?_
 clear hK K
 try simp only [Act.put, qI, qX, qY]
 refine wpList_build rfl _ _ rfl (by kernel_rfl) ?_
 try simp only [Act.put, qI, qX, qY]
 refine wpList_plain rfl fun K hK => ?_
 go_simp
 generalize hW11 : World.alloc W10 _ = W11
 have hb11 : Below W0.heap.size W0 W11 := hW11 ▸ hb10.alloc hb10.size _
 generalize hB11 : W10.heap.size = B11
 clear hW11 hB11
 refine hK _ _ ?_
 clear hK K
 try simp only [Act.put, qI, qX, qY]
 refine wpList_build rfl _ _ rfl (by kernel_rfl) ?_
 try simp only [Act.put, qI, qX, qY]
 refine wpList_plain rfl fun K hK => ?_
 go_simp
 generalize hW12 : World.alloc W11 _ = W12
 have hb12 : Below W0.heap.size W0 W12 := hW12 ▸ hb11.alloc hb11.size _
 generalize hB12 : W11.heap.size = B12
 clear hW12 hB12
 refine hK _ _ ?_
 clear hK K
 try simp only [Act.put, qI, qX, qY]
 refine wpList_build rfl _ _ rfl (by kernel_rfl) ?_
 try simp only [Act.put, qI, qX, qY]
 refine wpList_plain rfl fun K hK => ?_
 go_simp
 generalize hW13 : World.alloc W12 _ = W13
 have hb13 : Below W0.heap.size W0 W13 := hW13 ▸ hb12.alloc hb12.size _
 generalize hB13 : W12.heap.size = B13
 clear hW13 hB13
 refine hK _ _ ?_
 clear hK K
 try simp only [Act.put, qI, qX, qY]
 refine wpList_build rfl _ _ rfl (by kernel_rfl) ?_
 try simp only [Act.put, qI, qX, qY]
 refine wpList_plain rfl fun K hK => ?_
 go_simp
 generalize hW14 : World.alloc W13 _ = W14
 have hb14 : Below W0.heap.size W0 W14 := hW14 ▸ hb13.alloc hb13.size _
 generalize hB14 : W13.heap.size = B14
 clear hW14 hB14
 refine hK _ _ ?_
 clear hK K
 try simp only [Act.put, qI, qX, qY]
 refine wpList_build rfl _ _ rfl (by kernel_rfl) ?_
 try simp only [Act.put, qI, qX, qY]
 refine wpList_plain rfl fun K hK => ?_
 go_simp
 generalize hW15 : World.alloc W14 _ = W15
 have hb15 : Below W0.heap.size W0 W15 := hW15 ▸ hb14.alloc hb14.size _
 generalize hB15 : W14.heap.size = B15
 clear hW15 hB15
 refine hK _ _ ?_
 clear hK K
 try simp only [Act.put, qI, qX, qY]
 refine wpList_build rfl _ _ rfl (by kernel_rfl) ?_
 try simp only [Act.put, qI, qX, qY]
 refine wpList_plain rfl fun K hK => ?_
 go_simp
 generalize hW16 : World.alloc W15 _ = W16
 have hb16 : Below W0.heap.size W0 W16 := hW16 ▸ hb15.alloc hb15.size _
 generalize hB16 : W15.heap.size = B16
 clear hW16 hB16
 refine hK _ _ ?_
 clear hK K
 try simp only [Act.put, qI, qX, qY]
 refine wpList_build rfl _ _ rfl (by kernel_rfl) ?_
 try simp only [Act.put, qI, qX, qY]
 refine wpList_build rfl _ _ rfl (by kernel_rfl) ?_
 have hz16 := heap_below hb16 hz
 have hbw : Below w.heap.size w W16 := hw0.trans (hb16.mono hw0.size)
 refine wpList_store_row rfl _ _ _ rfl w.heap.size (tagV B1 B2 B3 B4 B5 B6 B7 B8 B9 B10 B11 B12 B13 B14 B15 B16) (by kernel_rfl) (by kernel_rfl) 115 _ hz16 (by kernel_rfl) (by kernel_rfl) (by kernel_rfl) ?_
 generalize hact : Act.put _ _ _ = a9
 have ha9 : a9.tmps.getD 0 undef = .pointer (some ⟨w.heap.size, 0, none⟩) := by rw [← hact]; kernel_rfl
 have hd9 : a9.defers = [] := by rw [← hact]; kernel_rfl
 clear hact
 refine wpList_nil ?_
 have hW := setRow_heap W16 w.heap.size _ (tagV B1 B2 B3 B4 B5 B6 B7 B8 B9 B10 B11 B12 B13 B14 B15 B16) 115 _ hz16
 have hB : Below w.heap.size w (W16.setRow w.heap.size (tagV B1 B2 B3 B4 B5 B6 B7 B8 B9 B10 B11 B12 B13 B14 B15 B16)) := setRow_below2 hbw (Nat.le_refl _)
 simp only [Exit.then]
 refine ‹∀ (a : Act) (w : World), Code.wp _ _ _ a w → _› _ _ ?_
 refine wp_ret ?_
 show bodyPost _ _ _ Exit.ret a9 _
 refine bodyPost_ret (results_tags rfl _ _ w.heap.size _ ha9 hW (by kernel_rfl)) hd9 ?_
 exact ⟨⟨_, _, _, _, _, _, _, _, _, _, _, _, _, _, _, _, rfl⟩, hB⟩
end Go.Proofs.YtjpgffihafknlaaGreatDoor
