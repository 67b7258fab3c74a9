/- The walk of render.Row. -/
import Derived.Test.YteognfhemmogpaaGreatDoorRenFitP
set_option linter.unusedVariables false
set_option linter.unusedSimpArgs false
namespace Go.Proofs.YteognfhemmogpaaGreatDoor
open Go.RowKit
open Go.Proofs.Qw
attribute [local go_sem] Oper.semAt_some
set_option maxRecDepth 200000 in
set_option maxHeartbeats 8000000 in
theorem row_of (HSt : ∀ (v : Value) (l : List Cel) (w w0 : World) (S : Nat → Prop), CelsR false w0 S v l → Below w0.heap.size w0 w → l.length ≤ 6000 →
  Calls Tryz.prog 86 #[v, .int .i64 1] w fun e w' => ∃ v', e = .returned v' ∧ NodsR true 21 w' (fun b => w.heap.size ≤ b) v' (gr (bitsK 4) l) ∧ Below w.heap.size w w')
  (v : Value) (l : List Cel) (w w0 : World) (S : Nat → Prop) (hv : CelsR false w0 S v l) (h0 : Below w0.heap.size w0 w) (hlen : l.length ≤ 6000) :
  Calls Tryz.prog 72 #[v] w fun e w' => ∃ v', e = .returned v' ∧ NodsR true 26 w' (fun b => w.heap.size ≤ b) v' (gr rowK l) ∧ Below w.heap.size w w' := by
 have hw := SliceR.below (rdOf_stable _) hv h0
 obtain ⟨va, vc, rfl⟩ := hv.slice
 have HV := Lib.hid hw
 have HSt := Lib.hid HSt
 clear hv hw
 refine (callsIn_wide (n := 6)).1 ?_
 refine callsIn_of_wp_marks Tryz.func72 rfl trivial ?_ rfl
 simp only [Tryz.ntmps72, List.size_toArray, List.length_cons, List.length_nil, Nat.reduceAdd, Nat.reduceSub, Array.replicate_succ, Array.replicate_zero, List.push_toArray, List.append_toArray, List.nil_append, List.cons_append]
 have hwf : ∀ f, Fence.wide.fn f := fun _ => trivial
 have hwd : Fence.wide.depth = none := rfl
 gi_wp2_with (gi_at_call 83; refine (callsIn_wide.2 (partsC_any _ _ _ _ _ _)).mono ?_; rintro e w5 ⟨rfl, rfl⟩)
 obtain ⟨w6, hw6⟩ : ∃ w6, ((w.alloc (.cells #[.slice none 0 0] 33)).alloc (.cells #[.slice va l.length vc] 29)).alloc (.cells #[.func (.func 84) #[] #[]] 128) = w6 := ⟨_, rfl⟩
 rw [hw6]
 have hb6 : Below w.heap.size w w6 := hw6 ▸ (((Below.refl _ _).alloc (Nat.le_refl _) _).alloc (by simp) _).alloc (by simp; omega) _
 have hz6 : w6.heap.size = w.heap.size + 3 := by rw [← hw6]; simp
 have m0 : w6.heap[w.heap.size]? = some (.cells #[.slice none 0 0] 33) := hw6 ▸ heap_old _ _ (heap_old _ _ (heap_new _ _ rfl))
 have n0 : w6.heap[w.heap.size + 1]? = some (.cells #[.slice va l.length vc] 29) := hw6 ▸ heap_old _ _ (heap_new _ _ (by simp))
 have n1 : w6.heap[w.heap.size + 1 + 1]? = some (.cells #[.func (.func 84) #[] #[]] 128) := hw6 ▸ heap_new _ _ (by simp)
 have hPL : PL (d := l) 26 (fun p => wrapO (lvHref (p.headD default)) (gr (bitsK 4) p)) w w.heap.size w6.heap.size [] w6 := ⟨_, m0, RwX.nil _ _ _ _ _, .inl rfl, hb6, Nat.le_refl _⟩
 have N0 := Lib.hid (And.intro n0 n1)
 have hZB : w.heap.size < w6.heap.size := by omega
 have HZ6 := Lib.hid hz6
 have hB1 : w.heap.size ≤ w.heap.size := Nat.le_refl _
 have hB2 : w.heap.size < w.heap.size + 1 := Nat.lt_succ_self _
 have hB3 := hZB
 have hwZ := hb6.size
 have hww : w.heap.size ≤ w.heap.size := Nat.le_refl _
 have HBW := Lib.hid (Below.refl w.heap.size w)
 clear hw6 m0 n0 n1 hz6
 refine rangeFunc_slotB rfl (by omega) (gf := 92) (lb := #[.pointer (some ⟨w.heap.size + 1, 0, none⟩), .pointer (some ⟨w.heap.size + 1 + 1, 0, none⟩)]) rfl trivial (enters_of Tryz.func92 (by kernel_rfl) rfl)
  (encs := partEnc (d := l) va vc 3) (n₀ := w.heap.size) (base := w.heap.size + 1) (top := w6.heap.size) (S := fun ys => ys.map (fun y => cutP l y.1) = partsBy hrefR l) (Sp := fun _ => True) (N := l.length) (w0 := w6) ?seq hb6.size (Below.refl _ _) (fun _ => rfl)
  (PL 26 (fun p => wrapO (lvHref (p.headD default)) (gr (bitsK 4) p)) w w.heap.size w6.heap.size) (pl_own hb6.size) hPL ?act ?assign ?body ?done
 case seq =>
  intro l' J Jx W hW hJ _ hY h0
  exact parts1_row 5 l' (w.heap.size + 1) (w.heap.size + 1 + 1) (w.heap.size + 1) w6.heap.size va vc l hrefR S J Jx w W HV.out (hb6.trans (hW.mono hb6.size)) (fun X _ x y => al_row x y X) ⟨by omega, by omega⟩ (by have := HZ6.out; omega) (heap_below hW N0.out.1) (heap_below hW N0.out.2) (by omega) hJ hY h0
 case assign =>
  intro l' pre x W K hI hK
  rw [show partEnc va vc 3 x = #[partV va vc 3 x.1] from rfl]
  gi_wp2
  exact hK
 case body =>
  intro l' pre x W hI hlt
  obtain ⟨v0, hD, hRW, hne, hb, hzW⟩ := hI
  have hpr := part_cels HV.out x
  have hpn := cut_ne x
  have hpz := cut_len x
  obtain ⟨P, hP⟩ : ∃ P, cutP l x.1 = P := ⟨_, rfl⟩
  have HT : Hid ((pre ++ [x]).flatMap (fun y => (fun p : List Cel => wrapO (lvHref (p.headD default)) (gr (bitsK 4) p)) (cutP l y.1)) = pre.flatMap (fun y => (fun p : List Cel => wrapO (lvHref (p.headD default)) (gr (bitsK 4) p)) (cutP l y.1)) ++ (fun p : List Cel => wrapO (lvHref (p.headD default)) (gr (bitsK 4) p)) P) := Lib.hid (by rw [List.flatMap_append, ← hP]; simp)
  rw [hP] at hpr hpn hpz
  obtain ⟨pa, pc, hpe, hpl, hpm, hpx⟩ := cels_shape hpr
  rw [hpe]
  rw [hpe] at hpr
  obtain ⟨c, P', rfl⟩ : ∃ c P', P = c :: P' := by cases P with | nil => exact absurd rfl hpn | cons c P' => exact ⟨c, P', rfl⟩
  obtain ⟨bb, oo, e, hbz, c0, c1, c2⟩ := hpx 0 c rfl
  subst e
  simp only [Nat.zero_mul, Nat.add_zero] at c0 c1 c2
  obtain ⟨xs, hxs⟩ : ∃ xs, pre.flatMap (fun y : PartX l => (fun p : List Cel => wrapO (lvHref (p.headD default)) (gr (bitsK 4) p)) (cutP l y.1)) = xs := ⟨_, rfl⟩
  have hxl0 : xs.length ≤ pre.length * 6000 := by
   rw [← hxs]
   exact flat_le_all _ 6000 pre (fun y => Nat.le_trans ((fun y => wrapO_len _ (cut_ne y) (gr_len _ _)) y) (Nat.le_trans (cut_len y) hlen))
  have hxl1 : pre.length * 6000 ≤ 6000 * 6000 := Nat.mul_le_mul_right _ (by omega)
  have hxl2 : xs.length ≤ 36000000 := by omega
  clear hxl1
  rw [hxs] at hRW hne HT
  have HRB := Lib.hid (rowx_block hRW hne)
  obtain ⟨sv, sc, hv0⟩ := hRW.slice
  subst hv0
  have HRW : Hid (∀ X, Below W.heap.size W X → RwX 35 4 (rdNod true 26) X w6.heap.size (.slice sv xs.length sc) xs) := Lib.hid fun X hX => RwX.below (rdNod_stable _ _) hRW (.all (by exact ⟨hX.os, hX.tape, hX.output, hX.size, fun b hz => hX.block b hz⟩))
  have HBO : Hid (∀ X, Below W.heap.size W X → X.heap[w.heap.size]? = some (.cells #[.slice sv xs.length sc] 33)) := Lib.hid fun X hX => heap_below hX hD
  have HNE := Lib.hid hne
  have HIN := Lib.hid (And.intro hb hzW)
  have HPR := Lib.hid hpr
  obtain ⟨q0, g0⟩ := blk hD
  have i0 : (0 : Int) < (((c :: P').length : Nat) : Int) := by simp only [List.length_cons]; omega
  have hb0 : Below W.heap.size W W.drew := (Below.refl _ _).drew
  clear hpx hP hpn hRW hne hxs hxl0 hpr
  have HT : Hid ((pre ++ [x]).flatMap (fun y => wrapO (lvHref ((cutP l y.1).headD default)) (gr (bitsK 4) (cutP l y.1))) = xs ++ wrapO (lvHref c) (gr (bitsK 4) (c :: P'))) := HT
  have hgl := gr_len (bitsK 4) (c :: P')
  have hwl := wrapO_len (lvHref c) (p := c :: P') (by simp) hgl
  have HGN : Hid (wrapO (lvHref c) (gr (bitsK 4) (c :: P')) ≠ []) := Lib.hid (wrapO_ne (gr_ne _ (by simp)))
  have hgf := gr_fit (bitsK 4) (c :: P') (by omega) (bitsK_fit 4)
  have HS : Hid (∀ X, Below W.heap.size W X → Calls Tryz.prog 86 #[.slice (some ⟨bb, oo, none⟩) (c :: P').length pc, .int .i64 1] X fun e X' => ∃ sa sc, e = .returned (.slice sa (gr (bitsK 4) (c :: P')).length sc) ∧ NodsR true 21 X' (fun b => X.heap.size ≤ b) (.slice sa (gr (bitsK 4) (c :: P')).length sc) (gr (bitsK 4) (c :: P')) ∧ Below X.heap.size X X') := Lib.hid fun X hX => by
   refine (HSt.out _ _ X w S HPR.out (hb.trans (hX.mono hb.size)) (by omega)).mono ?_
   rintro e X' ⟨v', h1, h2, h3⟩
   obtain ⟨sa, sc, rfl⟩ := h2.slice
   exact ⟨sa, sc, h1, h2, h3⟩
  have HWr : Hid (∀ X X0 sa sc, NodsR true 21 X (fun b => X0 ≤ b) (.slice sa (gr (bitsK 4) (c :: P')).length sc) (gr (bitsK 4) (c :: P')) → Calls Tryz.prog 85 #[.int .i64 0, .string ⟨c.href.toArray⟩, .slice sa (gr (bitsK 4) (c :: P')).length sc] X fun e X' => ∃ sa sc, e = .returned (.slice sa (wrapO (lvHref c) (gr (bitsK 4) (c :: P'))).length sc) ∧ NodsR true 26 X' (fun b => X.heap.size ≤ b) (.slice sa (wrapO (lvHref c) (gr (bitsK 4) (c :: P'))).length sc) (wrapO (lvHref c) (gr (bitsK 4) (c :: P'))) ∧ Below X.heap.size X X') := Lib.hid fun X X0 sa sc hk => by
   refine (wrap_high 21 0 c.href _ _ true X X _ hk (Below.refl _ _) (by omega) hgf).mono ?_
   rintro e X' ⟨v', h', h1, h2, h3, h4⟩
   rw [wrap_href] at h2
   have h2 := nods_mono' h4 h2
   obtain ⟨sa, sc, rfl⟩ := h2.slice
   exact ⟨sa, sc, h1, h2, h3⟩
  have hxl : xs.length + (wrapO (lvHref c) (gr (bitsK 4) (c :: P'))).length ≤ 100000000 := by omega
  have HAA : Hid (∀ X, Below w.heap.size w X → X.cell? ⟨bb, oo + 2, none⟩ = some (.string ⟨c.href.toArray⟩)) := Lib.hid fun X hX => (hX.cell (p := ⟨bb, oo + 2, none⟩) hbz).trans c2
  have HAX : Hid (∀ X, Below W.heap.size W X → X.cell? ⟨bb, oo + 2, none⟩ = some (.string ⟨c.href.toArray⟩)) := Lib.hid fun X hX => HAA.out X (hb.trans (hX.mono hb.size))
  have HAY : Hid (∀ X, Below W.heap.size W X → ∀ Y, X.cell? ⟨bb, oo + 2, none⟩ = some (.string ⟨c.href.toArray⟩) → Below w6.heap.size X Y → Y.cell? ⟨bb, oo + 2, none⟩ = some (.string ⟨c.href.toArray⟩)) := Lib.hid fun X hX Y h hY => (hY.cell (p := ⟨bb, oo + 2, none⟩) (by show bb < w6.heap.size; omega)).trans h
  have hbo : w.heap.size ≠ bb := by omega
  generalize gr (bitsK 4) (c :: P') = G0 at *
  generalize hGG : wrapO (lvHref c) G0 = G at *
  clear hgl hwl hgf hGG hb HV
  gi_wp2_with fail
  refine wpIn_region_T (fun w' => w'.cell? ⟨bb, oo + 2, none⟩ = some (.string ⟨c.href.toArray⟩)) (fun w' => w'.cell? ⟨w.heap.size, 0, none⟩ = some (.slice sv xs.length sc)) 9 (by kernel_rfl) (by kernel_rfl) (fun R hR => ?_)
  refine anyT_takeA (i := 1) (v := ?_) (by simp only [qA, qS, qZ]; rfl) (by kernel_rfl) (by kernel_rfl) (by kernel_rfl) (by kernel_rfl) (fun _ _ _ h => h) (Or.inl ⟨by rfl, ?_⟩) (HAX.out _ hb0) (Or.inr (by rw [(blk (HBO.out _ hb0)).1 0]; rfl)) ?_
  rotate_left 1
  ·intro w hSw; (try dsimp only at hSw); go_simp; (first | done | with_reducible rfl)
  try simp only [Act.put, qI, qX, qY]
  refine anyT_takeA (i := 2) (v := ?_) (by simp only [qA, qS, qZ]; rfl) (by kernel_rfl) (by kernel_rfl) (by kernel_rfl) (by kernel_rfl) (fun _ _ _ h => h) (Or.inl ⟨by rfl, ?_⟩) (HAX.out _ hb0) (Or.inr (by rw [(blk (HBO.out _ hb0)).1 0]; rfl)) ?_
  rotate_left 1
  ·intro w hSw; (try dsimp only at hSw); go_simp; (first | done | with_reducible rfl)
  try simp only [Act.put, qI, qX, qY]
  refine anyT_takeA (i := 3) (v := ?_) (by simp only [qA, qS, qZ]; rfl) (by kernel_rfl) (by kernel_rfl) (by kernel_rfl) (by kernel_rfl) (fun _ _ _ h => h) (Or.inl ⟨by rfl, ?_⟩) (HAX.out _ hb0) (Or.inr (by rw [(blk (HBO.out _ hb0)).1 0]; rfl)) ?_
  rotate_left 1
  ·intro w hSw; (try dsimp only at hSw); go_simp; (first | done | with_reducible rfl)
  try simp only [Act.put, qI, qX, qY]
  refine anyT_takeA (i := 4) (v := ?_) (by simp only [qA, qS, qZ]; rfl) (by kernel_rfl) (by kernel_rfl) (by kernel_rfl) (by kernel_rfl) (fun _ _ _ h => h) (Or.inl ⟨by rfl, ?_⟩) (HAX.out _ hb0) (Or.inr (by rw [(blk (HBO.out _ hb0)).1 0]; rfl)) ?_
  rotate_left 1
  ·intro w hSw; (try dsimp only at hSw); go_simp; (first | done | with_reducible rfl)
  try simp only [Act.put, qI, qX, qY]
  refine anyT_takeA (i := 5) (v := ?_) (by simp only [qA, qS, qZ]; rfl) (by kernel_rfl) (by kernel_rfl) (by kernel_rfl) (by kernel_rfl) (fun _ _ _ h => h) (Or.inl ⟨by rfl, ?_⟩) (HAX.out _ hb0) (Or.inr (by rw [(blk (HBO.out _ hb0)).1 0]; rfl)) ?_
  rotate_left 1
  ·intro w hSw; (try dsimp only at hSw); go_simp; (first | done | with_reducible rfl)
  try simp only [Act.put, qI, qX, qY]
  refine anyT_take (i := 0) (v := ?_) (by simp only [qA, qZ]; rfl) (by kernel_rfl) (by kernel_rfl) (by kernel_rfl) (by kernel_rfl) (fun _ _ _ h => h) (Or.inl ⟨by rfl, ?_⟩) ⟨HAX.out _ hb0, by rw [(blk (HBO.out _ hb0)).1 0]; rfl⟩ ?_
  rotate_left 1
  ·intro w hSw; (try dsimp only at hSw); go_simp; (first | done | with_reducible rfl)
  try simp only [Act.put, qI, qX, qY]
  refine anyT_ready (rs := [6]) (by kernel_rfl) (by simp) ?_
  refine AllReadyT.cons (by simp only [qA, qS, qZ]; rfl) (fun K hK => ?_) AllReadyT.nil
  go_simp
  refine (HS.out _ hb0).mono ?_
  rintro e x1 ⟨sa1, sc1, rfl, hk1, hst1⟩
  have HK1 := Lib.hid hk1
  clear hk1
  have hb1 : Below W.heap.size W x1 := below_from hb0 hst1
  refine hK.out _ _ (HAX.out _ hb1) (Or.inr (by rw [(blk (HBO.out _ hb1)).1 0]; rfl)) ?_
  clear hK K
  try simp only [Act.put, qI, qX, qY]
  refine anyT_ready (rs := [7]) (by kernel_rfl) (by simp) ?_
  refine AllReadyT.cons (by simp only [qA, qS, qZ]; rfl) (fun K hK => ?_) AllReadyT.nil
  go_simp
  refine (HWr.out _ _ _ _ HK1.out).mono ?_
  rintro e x2 ⟨sa2, sc2, rfl, hk2, hst2⟩
  have HK2 := Lib.hid hk2
  clear hk2
  have hb2 : Below W.heap.size W x2 := below_from hb1 hst2
  refine hK.out _ _ (HAX.out _ hb2) (Or.inr (by rw [(blk (HBO.out _ hb2)).1 0]; rfl)) ?_
  clear hK K
  try simp only [Act.put, qI, qX, qY]
  refine anyT_ready (rs := [8]) (by kernel_rfl) (by simp) ?_
  refine AllReadyT.cons (by simp only [qA, qS, qZ]; rfl) (fun K hK => ?_) AllReadyT.nil
  have hbs3 := hb2.size
  have HRX3 := HRW.out _ hb2
  have HRY3 := HRW.out _ hb1
  have hsz3 : w6.heap.size ≤ x2.heap.size := Nat.le_trans HIN.out.2 hb2.size
  have hsy3 : w6.heap.size ≤ x1.heap.size := Nat.le_trans HIN.out.2 hb1.size
  obtain ⟨news3, hsrc3, hnews3⟩ := SliceR.src (P := Tryz.prog) (st := 33) rowNod (eltNod 26).pos (eltNod 26).ones HK2.out
  (refine step_append_X (by rfl) _ _ 33 33 (by rfl) rowNod (eltNod 26) w6.heap.size (.slice sv xs.length sc) _ (xs := xs) (ys := G) (news := news3) (by rfl) (by rfl) HRX3 hsz3 hsrc3 (news_apart (rdNod_stable _ _) HRY3 hsy3 hnews3) hxl ?_)
  intro va3 y3 hra3 hba3 hga3 _
  obtain ⟨wa3, wn3, wc3, hwe3⟩ : ∃ a n c, va3 = .slice a n c := by obtain ⟨a, c, e⟩ := hra3.slice; exact ⟨a, _, c, e⟩
  subst hwe3
  have HRA3 := Lib.hid hra3
  have HGA3 := Lib.hid hga3
  clear hra3 hga3 hsrc3 hnews3
  have hob3 : y3.heap[w.heap.size]? = some (.cells #[.slice sv xs.length sc] 33) := (hba3.block _ (by have := hZB; have := hbs3; omega)).trans (HBO.out _ hb2)
  obtain ⟨qo3, fo3⟩ := blk hob3
  have ha3 := HAY.out _ hb2 y3 (HAX.out _ hb2) hba3
  refine hK.out _ _ (ha3) (Or.inr (by rw [qo3 0]; rfl)) ?_
  clear hK K
  try simp only [Act.put, qI, qX, qY]
  refine anyT_ready (rs := [9]) (by kernel_rfl) (by simp) ?_
  refine AllReadyT.cons (by simp only [qA, qS, qZ]; rfl) (fun K hK => ?_) AllReadyT.nil
  go_simp
  refine hK.out _ _ ((setCell_block hbo).trans ha3) (Or.inl (by kernel_rfl)) ?_
  clear hK K
  try simp only [Act.put, qI, qX, qY]
  refine anyT_done (by kernel_rfl) ?_ _
  refine hR.out _ _ ?_
  have hfin := put_row (F := fun p => wrapO (lvHref (p.headD default)) (gr (bitsK 4) p)) HIN.out.1 HIN.out.2 hB1 hB2 hB3 hwZ hb2 HRA3.out hba3 HGA3.out HRX3 HNE.out HGN.out hob3 HT.out
  gi_wp2_with fail
  exact ⟨hfin.1 _, hfin.2⟩
 case done =>
  rintro D ys W hD hys ⟨v9, t0, hR, hne, hb, hz⟩ hK
  have e : (ys.flatMap fun y : PartX l => (fun p : List Cel => wrapO (lvHref (p.headD default)) (gr (bitsK 4) p)) (cutP l y.1)) = gr rowK l := by
   rw [gr_href, ← hys, List.flatMap_map]
  rw [e] at hR
  have hrow := RwX.row (rdNod_stable _ _) ((rowx_own D w6.heap.size 26 v9 (fun _ : Unit => gr rowK l)).putObj (s := ()) (.deferred none) hR (Nat.le_refl _) hK rfl)
  obtain ⟨s0, s0f⟩ := blk t0
  obtain ⟨va9, c9, rfl⟩ := hR.slice
  have HROW := Lib.hid hrow
  have HB9 := Lib.hid hb
  have HK9 := Lib.hid hK
  clear hR hb hK hne hrow e
  generalize (gr rowK l).length = n9 at *
  gi_wp2_with fail
  refine ⟨by simp, .inl ⟨_, _, rfl, run_takeDeferred HK9.out, ?_⟩⟩
  refine ⟨.slice va9 n9 c9, by simp [results, Tryz.results72, go_sem], ?_⟩
  refine ⟨_, rfl, SliceR.stable (rdNod_stable _ _) HROW.out (Keeps.refl _ _) (fun b h _ => Nat.le_trans (Nat.le_trans hww hwZ) h), ?_⟩
  exact HBW.out.trans ((HB9.out.trans (belowK_b (w := w) (Nat.le_refl _) W D _ _ (by omega) HK9.out rfl rfl)).mono hww)
end Go.Proofs.YteognfhemmogpaaGreatDoor
namespace Go.Proofs.YteognfhemmogpaaGreatDoor
open Go.RowKit
open Go.Proofs.Qw
attribute [local go_sem] Oper.semAt_some
set_option maxHeartbeats 1000000 in
theorem styled_16 (v : Value) (l : List Cel) (w w0 : World) (S : Nat → Prop) (hv : CelsR false w0 S v l) (h0 : Below w0.heap.size w0 w) (hlen : l.length ≤ 6000) :
  Calls Tryz.prog 86 #[v, .int .i64 16] w fun e w' => ∃ v', e = .returned v' ∧ NodsR true 1 w' (fun b => w.heap.size ≤ b) v' (gr (bitsK 0) l) ∧ Below w.heap.size w w' := by
 have HC : Hid (∀ X, Below w.heap.size w X → Calls Tryz.prog 93 #[v] X fun e w' => ∃ v', e = .returned v' ∧ NodsR true 1 w' (fun b => X.heap.size ≤ b) v' (gr (bitsK 0) l) ∧ Below X.heap.size X w') := Lib.hid fun X hX => leaves_any v l X w0 S hv (below_from h0 hX) (by omega)
 obtain ⟨va, vc, rfl⟩ := hv.slice
 have hba : Below w.heap.size w (w.alloc (.cells #[.int .i64 16] 3)) := (Below.refl _ _).alloc (Nat.le_refl _) _
 clear hv h0
 go_enter Tryz.func86, Tryz.ntmps86
 go_wp2_with (go_at_call 93; refine (HC.out _ hba).mono ?_; rintro e w2 ⟨v', rfl, hv', hb'⟩; have HV := Lib.hid hv'; have HB := Lib.hid hb'; clear hv' hb')
 go_ret
 exact ⟨_, rfl, SliceR.stable (rdNod_stable _ _) HV.out (Keeps.refl _ _) (fun b h _ => Nat.le_trans hba.size h), below_from hba HB.out⟩
set_option maxRecDepth 200000 in
set_option maxHeartbeats 8000000 in
theorem styled_8 (HSt : ∀ (v : Value) (l : List Cel) (w w0 : World) (S : Nat → Prop), CelsR false w0 S v l → Below w0.heap.size w0 w → l.length ≤ 6000 →
  Calls Tryz.prog 86 #[v, .int .i64 16] w fun e w' => ∃ v', e = .returned v' ∧ NodsR true 1 w' (fun b => w.heap.size ≤ b) v' (gr (bitsK 0) l) ∧ Below w.heap.size w w')
  (v : Value) (l : List Cel) (w w0 : World) (S : Nat → Prop) (hv : CelsR false w0 S v l) (h0 : Below w0.heap.size w0 w) (hlen : l.length ≤ 6000) :
  Calls Tryz.prog 86 #[v, .int .i64 8] w fun e w' => ∃ v', e = .returned v' ∧ NodsR true 6 w' (fun b => w.heap.size ≤ b) v' (gr (bitsK (0 + 1)) l) ∧ Below w.heap.size w w' := by
 have hw := SliceR.below (rdOf_stable _) hv h0
 obtain ⟨va, vc, rfl⟩ := hv.slice
 have HV := Lib.hid hw
 have HSt := Lib.hid HSt
 clear hv hw
 refine (callsIn_wide (n := 6)).1 ?_
 refine callsIn_of_wp_marks Tryz.func86 rfl trivial ?_ rfl
 simp only [Tryz.ntmps86, List.size_toArray, List.length_cons, List.length_nil, Nat.reduceAdd, Nat.reduceSub, Array.replicate_succ, Array.replicate_zero, List.push_toArray, List.append_toArray, List.nil_append, List.cons_append]
 have hwf : ∀ f, Fence.wide.fn f := fun _ => trivial
 have hwd : Fence.wide.depth = none := rfl
 gi_wp2_with (gi_at_call 83; refine (callsIn_wide.2 (partsC_any _ _ _ _ _ _)).mono ?_; rintro e w5 ⟨rfl, rfl⟩)
 obtain ⟨w1, hw1⟩ : ∃ w1, w.alloc (.cells #[.int .i64 8] 3) = w1 := ⟨_, rfl⟩
 rw [hw1]
 obtain ⟨w6, hw6⟩ : ∃ w6, ((w1.alloc (.cells #[.slice none 0 0] 33)).alloc (.cells #[.slice va l.length vc] 29)).alloc (.cells #[.func (.func 94) #[] #[.pointer (some ⟨w.heap.size, 0, none⟩)]] 128) = w6 := ⟨_, rfl⟩
 rw [hw6]
 have hz1 : w1.heap.size = w.heap.size + 1 := by rw [← hw1]; simp
 have HBW : Hid (Below w.heap.size w w1) := Lib.hid (hw1 ▸ (Below.refl _ _).alloc (Nat.le_refl _) _)
 have HBB : Hid (w1.heap[w.heap.size]? = some (.cells #[.int .i64 8] 3)) := Lib.hid (hw1 ▸ heap_new _ _ rfl)
 have hb6 : Below w1.heap.size w1 w6 := hw6 ▸ (((Below.refl _ _).alloc (Nat.le_refl _) _).alloc (by simp) _).alloc (by simp; omega) _
 have hz6 : w6.heap.size = w1.heap.size + 3 := by rw [← hw6]; simp
 have m0 : w6.heap[w.heap.size + 1]? = some (.cells #[.slice none 0 0] 33) := hw6 ▸ heap_old _ _ (heap_old _ _ (heap_new _ _ (by omega)))
 have n0 : w6.heap[w.heap.size + 1 + 1]? = some (.cells #[.slice va l.length vc] 29) := hw6 ▸ heap_old _ _ (heap_new _ _ (by simp; omega))
 have n1 : w6.heap[w.heap.size + 1 + 1 + 1]? = some (.cells #[.func (.func 94) #[] #[.pointer (some ⟨w.heap.size, 0, none⟩)]] 128) := hw6 ▸ heap_new _ _ (by simp; omega)
 have hPL : PL (d := l) 6 (fun p : List Cel => wrapO (lvBit 3 (p.headD default)) (gr (bitsK 0) p)) w1 (w.heap.size + 1) w6.heap.size [] w6 := ⟨_, m0, RwX.nil _ _ _ _ _, .inl rfl, hb6, Nat.le_refl _⟩
 have N0 := Lib.hid (And.intro n0 n1)
 have hZB : w.heap.size + 1 < w6.heap.size := by omega
 have HZ6 := Lib.hid (And.intro hz6 hz1)
 have hB1 : w1.heap.size ≤ w.heap.size + 1 := by omega
 have hB2 : w.heap.size + 1 < w.heap.size + 1 + 1 := Nat.lt_succ_self _
 have hB3 := hZB
 have hwZ := hb6.size
 have hww := HBW.out.size
 clear hw6 m0 n0 n1 hz6 hw1 hz1
 refine rangeFunc_slotB rfl (by omega) (gf := 92) (lb := #[.pointer (some ⟨w.heap.size + 1 + 1, 0, none⟩), .pointer (some ⟨w.heap.size + 1 + 1 + 1, 0, none⟩)]) rfl trivial (enters_of Tryz.func92 (by kernel_rfl) rfl)
  (encs := partEnc (d := l) va vc 3) (n₀ := w1.heap.size) (base := w.heap.size + 1 + 1) (top := w6.heap.size) (S := fun ys => ys.map (fun y => cutP l y.1) = partsBy (bitR 3) l) (Sp := fun _ => True) (N := l.length) (w0 := w6) ?seq hb6.size (Below.refl _ _) (fun _ => rfl)
  (PL 6 (fun p : List Cel => wrapO (lvBit 3 (p.headD default)) (gr (bitsK 0) p)) w1 (w.heap.size + 1) w6.heap.size) (pl_own hb6.size) hPL ?act ?assign ?body ?done
 case seq =>
  intro l' J Jx W hW hJ _ hY h0
  exact parts1_styled 5 l' (w.heap.size + 1 + 1) (w.heap.size + 1 + 1 + 1) (w.heap.size + 1 + 1) w6.heap.size w.heap.size va vc l (bitR 3) S J Jx w1 W (HV.out.below (rdOf_stable _) HBW.out) (hb6.trans (hW.mono hb6.size)) (fun X hX x y => al_bit x y w.heap.size 3 (by omega) X (heap_below hX HBB.out)) ⟨by omega, by omega⟩ (by have := HZ6.out; omega) (heap_below hW N0.out.1) (heap_below hW N0.out.2) (by omega) hJ hY h0
 case assign =>
  intro l' pre x W K hI hK
  rw [show partEnc va vc 3 x = #[partV va vc 3 x.1] from rfl]
  gi_wp2
  exact hK
 case body =>
  intro l' pre x W hI hlt
  obtain ⟨v0, hD, hRW, hne, hb, hzW⟩ := hI
  have hpr := part_cels HV.out x
  have hpn := cut_ne x
  have hpz := cut_len x
  obtain ⟨P, hP⟩ : ∃ P, cutP l x.1 = P := ⟨_, rfl⟩
  have HT : Hid ((pre ++ [x]).flatMap (fun y => (fun p : List Cel => wrapO (lvBit 3 (p.headD default)) (gr (bitsK 0) p)) (cutP l y.1)) = pre.flatMap (fun y => (fun p : List Cel => wrapO (lvBit 3 (p.headD default)) (gr (bitsK 0) p)) (cutP l y.1)) ++ (fun p : List Cel => wrapO (lvBit 3 (p.headD default)) (gr (bitsK 0) p)) P) := Lib.hid (by rw [List.flatMap_append, ← hP]; simp)
  rw [hP] at hpr hpn hpz
  obtain ⟨pa, pc, hpe, hpl, hpm, hpx⟩ := cels_shape hpr
  rw [hpe]
  rw [hpe] at hpr
  obtain ⟨c, P', rfl⟩ : ∃ c P', P = c :: P' := by cases P with | nil => exact absurd rfl hpn | cons c P' => exact ⟨c, P', rfl⟩
  obtain ⟨bb, oo, e, hbz, c0, c1, c2⟩ := hpx 0 c rfl
  subst e
  simp only [Nat.zero_mul, Nat.add_zero] at c0 c1 c2
  obtain ⟨xs, hxs⟩ : ∃ xs, pre.flatMap (fun y : PartX l => (fun p : List Cel => wrapO (lvBit 3 (p.headD default)) (gr (bitsK 0) p)) (cutP l y.1)) = xs := ⟨_, rfl⟩
  have hxl0 : xs.length ≤ pre.length * 6000 := by
   rw [← hxs]
   exact flat_le_all _ 6000 pre (fun y => Nat.le_trans ((fun y => wrapO_len _ (cut_ne y) (gr_len _ _)) y) (Nat.le_trans (cut_len y) hlen))
  have hxl1 : pre.length * 6000 ≤ 6000 * 6000 := Nat.mul_le_mul_right _ (by omega)
  have hxl2 : xs.length ≤ 36000000 := by omega
  clear hxl1
  rw [hxs] at hRW hne HT
  have HRB := Lib.hid (rowx_block hRW hne)
  obtain ⟨sv, sc, hv0⟩ := hRW.slice
  subst hv0
  have HRW : Hid (∀ X, Below W.heap.size W X → RwX 35 4 (rdNod true 6) X w6.heap.size (.slice sv xs.length sc) xs) := Lib.hid fun X hX => RwX.below (rdNod_stable _ _) hRW (.all (by exact ⟨hX.os, hX.tape, hX.output, hX.size, fun b hz => hX.block b hz⟩))
  have HBO : Hid (∀ X, Below W.heap.size W X → X.heap[w.heap.size + 1]? = some (.cells #[.slice sv xs.length sc] 33)) := Lib.hid fun X hX => heap_below hX hD
  have HNE := Lib.hid hne
  have HIN := Lib.hid (And.intro hb hzW)
  have HPR := Lib.hid hpr
  obtain ⟨q0, g0⟩ := blk hD
  have i0 : (0 : Int) < (((c :: P').length : Nat) : Int) := by simp only [List.length_cons]; omega
  have hb0 : Below W.heap.size W W.drew := (Below.refl _ _).drew
  clear hpx hP hpn hRW hne hxs hxl0 hpr
  have HT : Hid ((pre ++ [x]).flatMap (fun y => wrapO (lvBit 3 ((cutP l y.1).headD default)) (gr (bitsK 0) (cutP l y.1))) = xs ++ wrapO (lvBit 3 c) (gr (bitsK 0) (c :: P'))) := HT
  have hgl := gr_len (bitsK 0) (c :: P')
  have hwl := wrapO_len (lvBit 3 c) (p := c :: P') (by simp) hgl
  have HGN : Hid (wrapO (lvBit 3 c) (gr (bitsK 0) (c :: P')) ≠ []) := Lib.hid (wrapO_ne (gr_ne _ (by simp)))
  have hgf := gr_fit (bitsK 0) (c :: P') (by omega) (bitsK_fit 0)
  have HS : Hid (∀ X, Below W.heap.size W X → Calls Tryz.prog 86 #[.slice (some ⟨bb, oo, none⟩) (c :: P').length pc, .int .i64 16] X fun e X' => ∃ sa sc, e = .returned (.slice sa (gr (bitsK 0) (c :: P')).length sc) ∧ NodsR true 1 X' (fun b => X.heap.size ≤ b) (.slice sa (gr (bitsK 0) (c :: P')).length sc) (gr (bitsK 0) (c :: P')) ∧ Below X.heap.size X X') := Lib.hid fun X hX => by
   refine (HSt.out _ _ X w S HPR.out (HBW.out.trans ((hb.trans (hX.mono hb.size)).mono hww)) (by omega)).mono ?_
   rintro e X' ⟨v', h1, h2, h3⟩
   obtain ⟨sa, sc, rfl⟩ := h2.slice
   exact ⟨sa, sc, h1, h2, h3⟩
  have HWr : Hid (∀ X X0 sa sc, NodsR true 1 X (fun b => X0 ≤ b) (.slice sa (gr (bitsK 0) (c :: P')).length sc) (gr (bitsK 0) (c :: P')) → Calls Tryz.prog 85 #[.int .i64 (bits .and .i64 c.bits 8), .string ⟨#[]⟩, .slice sa (gr (bitsK 0) (c :: P')).length sc] X fun e X' => ∃ sa sc, e = .returned (.slice sa (wrapO (lvBit 3 c) (gr (bitsK 0) (c :: P'))).length sc) ∧ NodsR true 6 X' (fun b => X.heap.size ≤ b) (.slice sa (wrapO (lvBit 3 c) (gr (bitsK 0) (c :: P'))).length sc) (wrapO (lvBit 3 c) (gr (bitsK 0) (c :: P'))) ∧ Below X.heap.size X X') := Lib.hid fun X X0 sa sc hk => by
   refine (wrap_high 1 (bits .and .i64 c.bits 8) [] _ _ true X X _ hk (Below.refl _ _) (by omega) hgf).mono ?_
   rintro e X' ⟨v', h', h1, h2, h3, h4⟩
   have ew : wrapN (bits .and .i64 c.bits 8) [] (gr (bitsK 0) (c :: P')) = wrapO (lvBit 3 c) (gr (bitsK 0) (c :: P')) := wrap_bit 3 (by omega) c _
   rw [ew] at h2
   have h2 := nods_mono' h4 h2
   obtain ⟨sa, sc, rfl⟩ := h2.slice
   exact ⟨sa, sc, h1, h2, h3⟩
  have hxl : xs.length + (wrapO (lvBit 3 c) (gr (bitsK 0) (c :: P'))).length ≤ 100000000 := by omega
  have HAA : Hid (∀ X, Below w1.heap.size w1 X → X.cell? ⟨bb, oo + 1, none⟩ = some (.int .i64 c.bits) ∧ X.cell? ⟨w.heap.size, 0, none⟩ = some (.int .i64 8)) := Lib.hid fun X hX => ⟨(hX.cell (p := ⟨bb, oo + 1, none⟩) (by show bb < w1.heap.size; omega)).trans ((HBW.out.cell (p := ⟨bb, oo + 1, none⟩) hbz).trans c1), by rw [(blk (heap_below hX HBB.out)).1 0]; rfl⟩
  have HAX : Hid (∀ X, Below W.heap.size W X → X.cell? ⟨bb, oo + 1, none⟩ = some (.int .i64 c.bits) ∧ X.cell? ⟨w.heap.size, 0, none⟩ = some (.int .i64 8)) := Lib.hid fun X hX => HAA.out X (hb.trans (hX.mono hb.size))
  have HAY : Hid (∀ X, Below W.heap.size W X → ∀ Y, (X.cell? ⟨bb, oo + 1, none⟩ = some (.int .i64 c.bits) ∧ X.cell? ⟨w.heap.size, 0, none⟩ = some (.int .i64 8)) → Below w6.heap.size X Y → Y.cell? ⟨bb, oo + 1, none⟩ = some (.int .i64 c.bits) ∧ Y.cell? ⟨w.heap.size, 0, none⟩ = some (.int .i64 8)) := Lib.hid fun X hX Y h hY => ⟨(hY.cell (p := ⟨bb, oo + 1, none⟩) (by show bb < w6.heap.size; omega)).trans h.1, (hY.cell (p := ⟨w.heap.size, 0, none⟩) (by show w.heap.size < w6.heap.size; omega)).trans h.2⟩
  have hbo : w.heap.size + 1 ≠ bb := by omega
  have hbo2 : w.heap.size + 1 ≠ w.heap.size := by omega
  generalize gr (bitsK 0) (c :: P') = G0 at *
  generalize hGG : wrapO (lvBit 3 c) G0 = G at *
  clear hgl hwl hgf hGG hb HV
  gi_wp2_with fail
  refine wpIn_region_T (fun w' => w'.cell? ⟨bb, oo + 1, none⟩ = some (.int .i64 c.bits) ∧ w'.cell? ⟨w.heap.size, 0, none⟩ = some (.int .i64 8)) (fun w' => w'.cell? ⟨w.heap.size + 1, 0, none⟩ = some (.slice sv xs.length sc)) 13 (by kernel_rfl) (by kernel_rfl) (fun R hR => ?_)
  refine anyT_takeA (i := 1) (v := ?_) (by simp only [qA, qS, qZ]; rfl) (by kernel_rfl) (by kernel_rfl) (by kernel_rfl) (by kernel_rfl) (fun _ _ _ h => h) (Or.inl ⟨by rfl, ?_⟩) (HAX.out _ hb0) (Or.inr (by rw [(blk (HBO.out _ hb0)).1 0]; rfl)) ?_
  rotate_left 1
  ·intro w hSw; (try dsimp only at hSw); go_simp; (first | done | with_reducible rfl)
  try simp only [Act.put, qI, qX, qY]
  refine anyT_takeA (i := 2) (v := ?_) (by simp only [qA, qS, qZ]; rfl) (by kernel_rfl) (by kernel_rfl) (by kernel_rfl) (by kernel_rfl) (fun _ _ _ h => h) (Or.inl ⟨by rfl, ?_⟩) (HAX.out _ hb0) (Or.inr (by rw [(blk (HBO.out _ hb0)).1 0]; rfl)) ?_
  rotate_left 1
  ·intro w hSw; (try dsimp only at hSw); go_simp; (first | done | with_reducible rfl)
  try simp only [Act.put, qI, qX, qY]
  refine anyT_takeA (i := 3) (v := ?_) (by simp only [qA, qS, qZ]; rfl) (by kernel_rfl) (by kernel_rfl) (by kernel_rfl) (by kernel_rfl) (fun _ _ _ h => h) (Or.inl ⟨by rfl, ?_⟩) (HAX.out _ hb0) (Or.inr (by rw [(blk (HBO.out _ hb0)).1 0]; rfl)) ?_
  rotate_left 1
  ·intro w hSw; (try dsimp only at hSw); go_simp; (first | done | with_reducible rfl)
  try simp only [Act.put, qI, qX, qY]
  refine anyT_takeA (i := 4) (v := ?_) (by simp only [qA, qS, qZ]; rfl) (by kernel_rfl) (by kernel_rfl) (by kernel_rfl) (by kernel_rfl) (fun _ _ _ h => h) (Or.inl ⟨by rfl, ?_⟩) (HAX.out _ hb0) (Or.inr (by rw [(blk (HBO.out _ hb0)).1 0]; rfl)) ?_
  rotate_left 1
  ·intro w hSw; (try dsimp only at hSw); go_simp; (first | done | with_reducible rfl)
  try simp only [Act.put, qI, qX, qY]
  refine anyT_takeA (i := 5) (v := ?_) (by simp only [qA, qS, qZ]; rfl) (by kernel_rfl) (by kernel_rfl) (by kernel_rfl) (by kernel_rfl) (fun _ _ _ h => h) (Or.inl ⟨by rfl, ?_⟩) (HAX.out _ hb0) (Or.inr (by rw [(blk (HBO.out _ hb0)).1 0]; rfl)) ?_
  rotate_left 1
  ·intro w hSw; (try dsimp only at hSw); go_simp; (first | done | with_reducible rfl)
  try simp only [Act.put, qI, qX, qY]
  refine anyT_takeA (i := 6) (v := ?_) (by simp only [qA, qS, qZ]; rfl) (by kernel_rfl) (by kernel_rfl) (by kernel_rfl) (by kernel_rfl) (fun _ _ _ h => h) (Or.inl ⟨by rfl, ?_⟩) (HAX.out _ hb0) (Or.inr (by rw [(blk (HBO.out _ hb0)).1 0]; rfl)) ?_
  rotate_left 1
  ·intro w hSw; (try dsimp only at hSw); go_simp; (first | done | with_reducible rfl)
  try simp only [Act.put, qI, qX, qY]
  refine anyT_takeA (i := 7) (v := ?_) (by simp only [qA, qS, qZ]; rfl) (by kernel_rfl) (by kernel_rfl) (by kernel_rfl) (by kernel_rfl) (fun _ _ _ h => h) (Or.inl ⟨by rfl, ?_⟩) (HAX.out _ hb0) (Or.inr (by rw [(blk (HBO.out _ hb0)).1 0]; rfl)) ?_
  rotate_left 1
  ·intro w hSw; (try dsimp only at hSw); go_simp; (first | done | with_reducible rfl)
  try simp only [Act.put, qI, qX, qY]
  refine anyT_takeA (i := 8) (v := ?_) (by simp only [qA, qS, qZ]; rfl) (by kernel_rfl) (by kernel_rfl) (by kernel_rfl) (by kernel_rfl) (fun _ _ _ h => h) (Or.inl ⟨by rfl, ?_⟩) (HAX.out _ hb0) (Or.inr (by rw [(blk (HBO.out _ hb0)).1 0]; rfl)) ?_
  rotate_left 1
  ·intro w hSw; (try dsimp only at hSw); go_simp; (first | done | with_reducible rfl)
  try simp only [Act.put, qI, qX, qY]
  refine anyT_takeA (i := 9) (v := ?_) (by simp only [qA, qS, qZ]; rfl) (by kernel_rfl) (by kernel_rfl) (by kernel_rfl) (by kernel_rfl) (fun _ _ _ h => h) (Or.inl ⟨by rfl, ?_⟩) (HAX.out _ hb0) (Or.inr (by rw [(blk (HBO.out _ hb0)).1 0]; rfl)) ?_
  rotate_left 1
  ·intro w hSw; (try dsimp only at hSw); go_simp; (first | done | with_reducible rfl)
  try simp only [Act.put, qI, qX, qY]
  refine anyT_take (i := 0) (v := ?_) (by simp only [qA, qZ]; rfl) (by kernel_rfl) (by kernel_rfl) (by kernel_rfl) (by kernel_rfl) (fun _ _ _ h => h) (Or.inl ⟨by rfl, ?_⟩) ⟨HAX.out _ hb0, by rw [(blk (HBO.out _ hb0)).1 0]; rfl⟩ ?_
  rotate_left 1
  ·intro w hSw; (try dsimp only at hSw); go_simp; (first | done | with_reducible rfl)
  try simp only [Act.put, qI, qX, qY]
  refine anyT_ready (rs := [10]) (by kernel_rfl) (by simp) ?_
  refine AllReadyT.cons (by simp only [qA, qS, qZ]; rfl) (fun K hK => ?_) AllReadyT.nil
  go_simp
  refine (HS.out _ hb0).mono ?_
  rintro e x1 ⟨sa1, sc1, rfl, hk1, hst1⟩
  have HK1 := Lib.hid hk1
  clear hk1
  have hb1 : Below W.heap.size W x1 := below_from hb0 hst1
  refine hK.out _ _ (HAX.out _ hb1) (Or.inr (by rw [(blk (HBO.out _ hb1)).1 0]; rfl)) ?_
  clear hK K
  try simp only [Act.put, qI, qX, qY]
  refine anyT_ready (rs := [11]) (by kernel_rfl) (by simp) ?_
  refine AllReadyT.cons (by simp only [qA, qS, qZ]; rfl) (fun K hK => ?_) AllReadyT.nil
  go_simp
  refine (HWr.out _ _ _ _ HK1.out).mono ?_
  rintro e x2 ⟨sa2, sc2, rfl, hk2, hst2⟩
  have HK2 := Lib.hid hk2
  clear hk2
  have hb2 : Below W.heap.size W x2 := below_from hb1 hst2
  refine hK.out _ _ (HAX.out _ hb2) (Or.inr (by rw [(blk (HBO.out _ hb2)).1 0]; rfl)) ?_
  clear hK K
  try simp only [Act.put, qI, qX, qY]
  refine anyT_ready (rs := [12]) (by kernel_rfl) (by simp) ?_
  refine AllReadyT.cons (by simp only [qA, qS, qZ]; rfl) (fun K hK => ?_) AllReadyT.nil
  have hbs3 := hb2.size
  have HRX3 := HRW.out _ hb2
  have HRY3 := HRW.out _ hb1
  have hsz3 : w6.heap.size ≤ x2.heap.size := Nat.le_trans HIN.out.2 hb2.size
  have hsy3 : w6.heap.size ≤ x1.heap.size := Nat.le_trans HIN.out.2 hb1.size
  obtain ⟨news3, hsrc3, hnews3⟩ := SliceR.src (P := Tryz.prog) (st := 33) rowNod (eltNod 6).pos (eltNod 6).ones HK2.out
  (refine step_append_X (by rfl) _ _ 33 33 (by rfl) rowNod (eltNod 6) w6.heap.size (.slice sv xs.length sc) _ (xs := xs) (ys := G) (news := news3) (by rfl) (by rfl) HRX3 hsz3 hsrc3 (news_apart (rdNod_stable _ _) HRY3 hsy3 hnews3) hxl ?_)
  intro va3 y3 hra3 hba3 hga3 _
  obtain ⟨wa3, wn3, wc3, hwe3⟩ : ∃ a n c, va3 = .slice a n c := by obtain ⟨a, c, e⟩ := hra3.slice; exact ⟨a, _, c, e⟩
  subst hwe3
  have HRA3 := Lib.hid hra3
  have HGA3 := Lib.hid hga3
  clear hra3 hga3 hsrc3 hnews3
  have hob3 : y3.heap[(w.heap.size + 1)]? = some (.cells #[.slice sv xs.length sc] 33) := (hba3.block _ (by have := hZB; have := hbs3; omega)).trans (HBO.out _ hb2)
  obtain ⟨qo3, fo3⟩ := blk hob3
  have ha3 := HAY.out _ hb2 y3 (HAX.out _ hb2) hba3
  refine hK.out _ _ (ha3) (Or.inr (by rw [qo3 0]; rfl)) ?_
  clear hK K
  try simp only [Act.put, qI, qX, qY]
  refine anyT_ready (rs := [13]) (by kernel_rfl) (by simp) ?_
  refine AllReadyT.cons (by simp only [qA, qS, qZ]; rfl) (fun K hK => ?_) AllReadyT.nil
  go_simp
  refine hK.out _ _ (⟨(setCell_block hbo).trans ha3.1, (setCell_block hbo2).trans ha3.2⟩) (Or.inl (by kernel_rfl)) ?_
  clear hK K
  try simp only [Act.put, qI, qX, qY]
  refine anyT_done (by kernel_rfl) ?_ _
  refine hR.out _ _ ?_
  have hfin := put_row (F := (fun p : List Cel => wrapO (lvBit 3 (p.headD default)) (gr (bitsK 0) p))) HIN.out.1 HIN.out.2 hB1 hB2 hB3 hwZ hb2 HRA3.out hba3 HGA3.out HRX3 HNE.out HGN.out hob3 HT.out
  gi_wp2_with fail
  exact ⟨hfin.1 _, hfin.2⟩
 case done =>
  rintro D ys W hD hys ⟨v9, t0, hR, hne, hb, hz⟩ hK
  have e : (ys.flatMap fun y : PartX l => (fun p : List Cel => wrapO (lvBit 3 (p.headD default)) (gr (bitsK 0) p)) (cutP l y.1)) = gr (bitsK (0 + 1)) l := by
   rw [gr_bit 3 0 l rfl, ← hys, List.flatMap_map]
  rw [e] at hR
  have hrow := RwX.row (rdNod_stable _ _) ((rowx_own D w6.heap.size 6 v9 (fun _ : Unit => gr (bitsK (0 + 1)) l)).putObj (s := ()) (.deferred none) hR (Nat.le_refl _) hK rfl)
  obtain ⟨s0, s0f⟩ := blk t0
  obtain ⟨va9, c9, rfl⟩ := hR.slice
  have HROW := Lib.hid hrow
  have HB9 := Lib.hid hb
  have HK9 := Lib.hid hK
  clear hR hb hK hne hrow e
  generalize (gr (bitsK (0 + 1)) l).length = n9 at *
  gi_wp2_with fail
  refine ⟨by simp, .inl ⟨_, _, rfl, run_takeDeferred HK9.out, ?_⟩⟩
  refine ⟨.slice va9 n9 c9, by simp [results, Tryz.results86, go_sem], ?_⟩
  refine ⟨_, rfl, SliceR.stable (rdNod_stable _ _) HROW.out (Keeps.refl _ _) (fun b h _ => Nat.le_trans (Nat.le_trans hww hwZ) h), ?_⟩
  exact HBW.out.trans ((HB9.out.trans (belowK_b (w := w1) (Nat.le_refl _) W D _ _ (by omega) HK9.out rfl rfl)).mono hww)
set_option maxRecDepth 200000 in
set_option maxHeartbeats 8000000 in
theorem styled_4 (HSt : ∀ (v : Value) (l : List Cel) (w w0 : World) (S : Nat → Prop), CelsR false w0 S v l → Below w0.heap.size w0 w → l.length ≤ 6000 →
  Calls Tryz.prog 86 #[v, .int .i64 8] w fun e w' => ∃ v', e = .returned v' ∧ NodsR true 6 w' (fun b => w.heap.size ≤ b) v' (gr (bitsK 1) l) ∧ Below w.heap.size w w')
  (v : Value) (l : List Cel) (w w0 : World) (S : Nat → Prop) (hv : CelsR false w0 S v l) (h0 : Below w0.heap.size w0 w) (hlen : l.length ≤ 6000) :
  Calls Tryz.prog 86 #[v, .int .i64 4] w fun e w' => ∃ v', e = .returned v' ∧ NodsR true 11 w' (fun b => w.heap.size ≤ b) v' (gr (bitsK (1 + 1)) l) ∧ Below w.heap.size w w' := by
 have hw := SliceR.below (rdOf_stable _) hv h0
 obtain ⟨va, vc, rfl⟩ := hv.slice
 have HV := Lib.hid hw
 have HSt := Lib.hid HSt
 clear hv hw
 refine (callsIn_wide (n := 6)).1 ?_
 refine callsIn_of_wp_marks Tryz.func86 rfl trivial ?_ rfl
 simp only [Tryz.ntmps86, List.size_toArray, List.length_cons, List.length_nil, Nat.reduceAdd, Nat.reduceSub, Array.replicate_succ, Array.replicate_zero, List.push_toArray, List.append_toArray, List.nil_append, List.cons_append]
 have hwf : ∀ f, Fence.wide.fn f := fun _ => trivial
 have hwd : Fence.wide.depth = none := rfl
 gi_wp2_with (gi_at_call 83; refine (callsIn_wide.2 (partsC_any _ _ _ _ _ _)).mono ?_; rintro e w5 ⟨rfl, rfl⟩)
 obtain ⟨w1, hw1⟩ : ∃ w1, w.alloc (.cells #[.int .i64 4] 3) = w1 := ⟨_, rfl⟩
 rw [hw1]
 obtain ⟨w6, hw6⟩ : ∃ w6, ((w1.alloc (.cells #[.slice none 0 0] 33)).alloc (.cells #[.slice va l.length vc] 29)).alloc (.cells #[.func (.func 94) #[] #[.pointer (some ⟨w.heap.size, 0, none⟩)]] 128) = w6 := ⟨_, rfl⟩
 rw [hw6]
 have hz1 : w1.heap.size = w.heap.size + 1 := by rw [← hw1]; simp
 have HBW : Hid (Below w.heap.size w w1) := Lib.hid (hw1 ▸ (Below.refl _ _).alloc (Nat.le_refl _) _)
 have HBB : Hid (w1.heap[w.heap.size]? = some (.cells #[.int .i64 4] 3)) := Lib.hid (hw1 ▸ heap_new _ _ rfl)
 have hb6 : Below w1.heap.size w1 w6 := hw6 ▸ (((Below.refl _ _).alloc (Nat.le_refl _) _).alloc (by simp) _).alloc (by simp; omega) _
 have hz6 : w6.heap.size = w1.heap.size + 3 := by rw [← hw6]; simp
 have m0 : w6.heap[w.heap.size + 1]? = some (.cells #[.slice none 0 0] 33) := hw6 ▸ heap_old _ _ (heap_old _ _ (heap_new _ _ (by omega)))
 have n0 : w6.heap[w.heap.size + 1 + 1]? = some (.cells #[.slice va l.length vc] 29) := hw6 ▸ heap_old _ _ (heap_new _ _ (by simp; omega))
 have n1 : w6.heap[w.heap.size + 1 + 1 + 1]? = some (.cells #[.func (.func 94) #[] #[.pointer (some ⟨w.heap.size, 0, none⟩)]] 128) := hw6 ▸ heap_new _ _ (by simp; omega)
 have hPL : PL (d := l) 11 (fun p : List Cel => wrapO (lvBit 2 (p.headD default)) (gr (bitsK 1) p)) w1 (w.heap.size + 1) w6.heap.size [] w6 := ⟨_, m0, RwX.nil _ _ _ _ _, .inl rfl, hb6, Nat.le_refl _⟩
 have N0 := Lib.hid (And.intro n0 n1)
 have hZB : w.heap.size + 1 < w6.heap.size := by omega
 have HZ6 := Lib.hid (And.intro hz6 hz1)
 have hB1 : w1.heap.size ≤ w.heap.size + 1 := by omega
 have hB2 : w.heap.size + 1 < w.heap.size + 1 + 1 := Nat.lt_succ_self _
 have hB3 := hZB
 have hwZ := hb6.size
 have hww := HBW.out.size
 clear hw6 m0 n0 n1 hz6 hw1 hz1
 refine rangeFunc_slotB rfl (by omega) (gf := 92) (lb := #[.pointer (some ⟨w.heap.size + 1 + 1, 0, none⟩), .pointer (some ⟨w.heap.size + 1 + 1 + 1, 0, none⟩)]) rfl trivial (enters_of Tryz.func92 (by kernel_rfl) rfl)
  (encs := partEnc (d := l) va vc 3) (n₀ := w1.heap.size) (base := w.heap.size + 1 + 1) (top := w6.heap.size) (S := fun ys => ys.map (fun y => cutP l y.1) = partsBy (bitR 2) l) (Sp := fun _ => True) (N := l.length) (w0 := w6) ?seq hb6.size (Below.refl _ _) (fun _ => rfl)
  (PL 11 (fun p : List Cel => wrapO (lvBit 2 (p.headD default)) (gr (bitsK 1) p)) w1 (w.heap.size + 1) w6.heap.size) (pl_own hb6.size) hPL ?act ?assign ?body ?done
 case seq =>
  intro l' J Jx W hW hJ _ hY h0
  exact parts1_styled 5 l' (w.heap.size + 1 + 1) (w.heap.size + 1 + 1 + 1) (w.heap.size + 1 + 1) w6.heap.size w.heap.size va vc l (bitR 2) S J Jx w1 W (HV.out.below (rdOf_stable _) HBW.out) (hb6.trans (hW.mono hb6.size)) (fun X hX x y => al_bit x y w.heap.size 2 (by omega) X (heap_below hX HBB.out)) ⟨by omega, by omega⟩ (by have := HZ6.out; omega) (heap_below hW N0.out.1) (heap_below hW N0.out.2) (by omega) hJ hY h0
 case assign =>
  intro l' pre x W K hI hK
  rw [show partEnc va vc 3 x = #[partV va vc 3 x.1] from rfl]
  gi_wp2
  exact hK
 case body =>
  intro l' pre x W hI hlt
  obtain ⟨v0, hD, hRW, hne, hb, hzW⟩ := hI
  have hpr := part_cels HV.out x
  have hpn := cut_ne x
  have hpz := cut_len x
  obtain ⟨P, hP⟩ : ∃ P, cutP l x.1 = P := ⟨_, rfl⟩
  have HT : Hid ((pre ++ [x]).flatMap (fun y => (fun p : List Cel => wrapO (lvBit 2 (p.headD default)) (gr (bitsK 1) p)) (cutP l y.1)) = pre.flatMap (fun y => (fun p : List Cel => wrapO (lvBit 2 (p.headD default)) (gr (bitsK 1) p)) (cutP l y.1)) ++ (fun p : List Cel => wrapO (lvBit 2 (p.headD default)) (gr (bitsK 1) p)) P) := Lib.hid (by rw [List.flatMap_append, ← hP]; simp)
  rw [hP] at hpr hpn hpz
  obtain ⟨pa, pc, hpe, hpl, hpm, hpx⟩ := cels_shape hpr
  rw [hpe]
  rw [hpe] at hpr
  obtain ⟨c, P', rfl⟩ : ∃ c P', P = c :: P' := by cases P with | nil => exact absurd rfl hpn | cons c P' => exact ⟨c, P', rfl⟩
  obtain ⟨bb, oo, e, hbz, c0, c1, c2⟩ := hpx 0 c rfl
  subst e
  simp only [Nat.zero_mul, Nat.add_zero] at c0 c1 c2
  obtain ⟨xs, hxs⟩ : ∃ xs, pre.flatMap (fun y : PartX l => (fun p : List Cel => wrapO (lvBit 2 (p.headD default)) (gr (bitsK 1) p)) (cutP l y.1)) = xs := ⟨_, rfl⟩
  have hxl0 : xs.length ≤ pre.length * 6000 := by
   rw [← hxs]
   exact flat_le_all _ 6000 pre (fun y => Nat.le_trans ((fun y => wrapO_len _ (cut_ne y) (gr_len _ _)) y) (Nat.le_trans (cut_len y) hlen))
  have hxl1 : pre.length * 6000 ≤ 6000 * 6000 := Nat.mul_le_mul_right _ (by omega)
  have hxl2 : xs.length ≤ 36000000 := by omega
  clear hxl1
  rw [hxs] at hRW hne HT
  have HRB := Lib.hid (rowx_block hRW hne)
  obtain ⟨sv, sc, hv0⟩ := hRW.slice
  subst hv0
  have HRW : Hid (∀ X, Below W.heap.size W X → RwX 35 4 (rdNod true 11) X w6.heap.size (.slice sv xs.length sc) xs) := Lib.hid fun X hX => RwX.below (rdNod_stable _ _) hRW (.all (by exact ⟨hX.os, hX.tape, hX.output, hX.size, fun b hz => hX.block b hz⟩))
  have HBO : Hid (∀ X, Below W.heap.size W X → X.heap[w.heap.size + 1]? = some (.cells #[.slice sv xs.length sc] 33)) := Lib.hid fun X hX => heap_below hX hD
  have HNE := Lib.hid hne
  have HIN := Lib.hid (And.intro hb hzW)
  have HPR := Lib.hid hpr
  obtain ⟨q0, g0⟩ := blk hD
  have i0 : (0 : Int) < (((c :: P').length : Nat) : Int) := by simp only [List.length_cons]; omega
  have hb0 : Below W.heap.size W W.drew := (Below.refl _ _).drew
  clear hpx hP hpn hRW hne hxs hxl0 hpr
  have HT : Hid ((pre ++ [x]).flatMap (fun y => wrapO (lvBit 2 ((cutP l y.1).headD default)) (gr (bitsK 1) (cutP l y.1))) = xs ++ wrapO (lvBit 2 c) (gr (bitsK 1) (c :: P'))) := HT
  have hgl := gr_len (bitsK 1) (c :: P')
  have hwl := wrapO_len (lvBit 2 c) (p := c :: P') (by simp) hgl
  have HGN : Hid (wrapO (lvBit 2 c) (gr (bitsK 1) (c :: P')) ≠ []) := Lib.hid (wrapO_ne (gr_ne _ (by simp)))
  have hgf := gr_fit (bitsK 1) (c :: P') (by omega) (bitsK_fit 1)
  have HS : Hid (∀ X, Below W.heap.size W X → Calls Tryz.prog 86 #[.slice (some ⟨bb, oo, none⟩) (c :: P').length pc, .int .i64 8] X fun e X' => ∃ sa sc, e = .returned (.slice sa (gr (bitsK 1) (c :: P')).length sc) ∧ NodsR true 6 X' (fun b => X.heap.size ≤ b) (.slice sa (gr (bitsK 1) (c :: P')).length sc) (gr (bitsK 1) (c :: P')) ∧ Below X.heap.size X X') := Lib.hid fun X hX => by
   refine (HSt.out _ _ X w S HPR.out (HBW.out.trans ((hb.trans (hX.mono hb.size)).mono hww)) (by omega)).mono ?_
   rintro e X' ⟨v', h1, h2, h3⟩
   obtain ⟨sa, sc, rfl⟩ := h2.slice
   exact ⟨sa, sc, h1, h2, h3⟩
  have HWr : Hid (∀ X X0 sa sc, NodsR true 6 X (fun b => X0 ≤ b) (.slice sa (gr (bitsK 1) (c :: P')).length sc) (gr (bitsK 1) (c :: P')) → Calls Tryz.prog 85 #[.int .i64 (bits .and .i64 c.bits 4), .string ⟨#[]⟩, .slice sa (gr (bitsK 1) (c :: P')).length sc] X fun e X' => ∃ sa sc, e = .returned (.slice sa (wrapO (lvBit 2 c) (gr (bitsK 1) (c :: P'))).length sc) ∧ NodsR true 11 X' (fun b => X.heap.size ≤ b) (.slice sa (wrapO (lvBit 2 c) (gr (bitsK 1) (c :: P'))).length sc) (wrapO (lvBit 2 c) (gr (bitsK 1) (c :: P'))) ∧ Below X.heap.size X X') := Lib.hid fun X X0 sa sc hk => by
   refine (wrap_high 6 (bits .and .i64 c.bits 4) [] _ _ true X X _ hk (Below.refl _ _) (by omega) hgf).mono ?_
   rintro e X' ⟨v', h', h1, h2, h3, h4⟩
   have ew : wrapN (bits .and .i64 c.bits 4) [] (gr (bitsK 1) (c :: P')) = wrapO (lvBit 2 c) (gr (bitsK 1) (c :: P')) := wrap_bit 2 (by omega) c _
   rw [ew] at h2
   have h2 := nods_mono' h4 h2
   obtain ⟨sa, sc, rfl⟩ := h2.slice
   exact ⟨sa, sc, h1, h2, h3⟩
  have hxl : xs.length + (wrapO (lvBit 2 c) (gr (bitsK 1) (c :: P'))).length ≤ 100000000 := by omega
  have HAA : Hid (∀ X, Below w1.heap.size w1 X → X.cell? ⟨bb, oo + 1, none⟩ = some (.int .i64 c.bits) ∧ X.cell? ⟨w.heap.size, 0, none⟩ = some (.int .i64 4)) := Lib.hid fun X hX => ⟨(hX.cell (p := ⟨bb, oo + 1, none⟩) (by show bb < w1.heap.size; omega)).trans ((HBW.out.cell (p := ⟨bb, oo + 1, none⟩) hbz).trans c1), by rw [(blk (heap_below hX HBB.out)).1 0]; rfl⟩
  have HAX : Hid (∀ X, Below W.heap.size W X → X.cell? ⟨bb, oo + 1, none⟩ = some (.int .i64 c.bits) ∧ X.cell? ⟨w.heap.size, 0, none⟩ = some (.int .i64 4)) := Lib.hid fun X hX => HAA.out X (hb.trans (hX.mono hb.size))
  have HAY : Hid (∀ X, Below W.heap.size W X → ∀ Y, (X.cell? ⟨bb, oo + 1, none⟩ = some (.int .i64 c.bits) ∧ X.cell? ⟨w.heap.size, 0, none⟩ = some (.int .i64 4)) → Below w6.heap.size X Y → Y.cell? ⟨bb, oo + 1, none⟩ = some (.int .i64 c.bits) ∧ Y.cell? ⟨w.heap.size, 0, none⟩ = some (.int .i64 4)) := Lib.hid fun X hX Y h hY => ⟨(hY.cell (p := ⟨bb, oo + 1, none⟩) (by show bb < w6.heap.size; omega)).trans h.1, (hY.cell (p := ⟨w.heap.size, 0, none⟩) (by show w.heap.size < w6.heap.size; omega)).trans h.2⟩
  have hbo : w.heap.size + 1 ≠ bb := by omega
  have hbo2 : w.heap.size + 1 ≠ w.heap.size := by omega
  generalize gr (bitsK 1) (c :: P') = G0 at *
  generalize hGG : wrapO (lvBit 2 c) G0 = G at *
  clear hgl hwl hgf hGG hb HV
  gi_wp2_with fail
  refine wpIn_region_T (fun w' => w'.cell? ⟨bb, oo + 1, none⟩ = some (.int .i64 c.bits) ∧ w'.cell? ⟨w.heap.size, 0, none⟩ = some (.int .i64 4)) (fun w' => w'.cell? ⟨w.heap.size + 1, 0, none⟩ = some (.slice sv xs.length sc)) 13 (by kernel_rfl) (by kernel_rfl) (fun R hR => ?_)
  refine anyT_takeA (i := 1) (v := ?_) (by simp only [qA, qS, qZ]; rfl) (by kernel_rfl) (by kernel_rfl) (by kernel_rfl) (by kernel_rfl) (fun _ _ _ h => h) (Or.inl ⟨by rfl, ?_⟩) (HAX.out _ hb0) (Or.inr (by rw [(blk (HBO.out _ hb0)).1 0]; rfl)) ?_
  rotate_left 1
  ·intro w hSw; (try dsimp only at hSw); go_simp; (first | done | with_reducible rfl)
  try simp only [Act.put, qI, qX, qY]
  refine anyT_takeA (i := 2) (v := ?_) (by simp only [qA, qS, qZ]; rfl) (by kernel_rfl) (by kernel_rfl) (by kernel_rfl) (by kernel_rfl) (fun _ _ _ h => h) (Or.inl ⟨by rfl, ?_⟩) (HAX.out _ hb0) (Or.inr (by rw [(blk (HBO.out _ hb0)).1 0]; rfl)) ?_
  rotate_left 1
  ·intro w hSw; (try dsimp only at hSw); go_simp; (first | done | with_reducible rfl)
  try simp only [Act.put, qI, qX, qY]
  refine anyT_takeA (i := 3) (v := ?_) (by simp only [qA, qS, qZ]; rfl) (by kernel_rfl) (by kernel_rfl) (by kernel_rfl) (by kernel_rfl) (fun _ _ _ h => h) (Or.inl ⟨by rfl, ?_⟩) (HAX.out _ hb0) (Or.inr (by rw [(blk (HBO.out _ hb0)).1 0]; rfl)) ?_
  rotate_left 1
  ·intro w hSw; (try dsimp only at hSw); go_simp; (first | done | with_reducible rfl)
  try simp only [Act.put, qI, qX, qY]
  refine anyT_takeA (i := 4) (v := ?_) (by simp only [qA, qS, qZ]; rfl) (by kernel_rfl) (by kernel_rfl) (by kernel_rfl) (by kernel_rfl) (fun _ _ _ h => h) (Or.inl ⟨by rfl, ?_⟩) (HAX.out _ hb0) (Or.inr (by rw [(blk (HBO.out _ hb0)).1 0]; rfl)) ?_
  rotate_left 1
  ·intro w hSw; (try dsimp only at hSw); go_simp; (first | done | with_reducible rfl)
  try simp only [Act.put, qI, qX, qY]
  refine anyT_takeA (i := 5) (v := ?_) (by simp only [qA, qS, qZ]; rfl) (by kernel_rfl) (by kernel_rfl) (by kernel_rfl) (by kernel_rfl) (fun _ _ _ h => h) (Or.inl ⟨by rfl, ?_⟩) (HAX.out _ hb0) (Or.inr (by rw [(blk (HBO.out _ hb0)).1 0]; rfl)) ?_
  rotate_left 1
  ·intro w hSw; (try dsimp only at hSw); go_simp; (first | done | with_reducible rfl)
  try simp only [Act.put, qI, qX, qY]
  refine anyT_takeA (i := 6) (v := ?_) (by simp only [qA, qS, qZ]; rfl) (by kernel_rfl) (by kernel_rfl) (by kernel_rfl) (by kernel_rfl) (fun _ _ _ h => h) (Or.inl ⟨by rfl, ?_⟩) (HAX.out _ hb0) (Or.inr (by rw [(blk (HBO.out _ hb0)).1 0]; rfl)) ?_
  rotate_left 1
  ·intro w hSw; (try dsimp only at hSw); go_simp; (first | done | with_reducible rfl)
  try simp only [Act.put, qI, qX, qY]
  refine anyT_takeA (i := 7) (v := ?_) (by simp only [qA, qS, qZ]; rfl) (by kernel_rfl) (by kernel_rfl) (by kernel_rfl) (by kernel_rfl) (fun _ _ _ h => h) (Or.inl ⟨by rfl, ?_⟩) (HAX.out _ hb0) (Or.inr (by rw [(blk (HBO.out _ hb0)).1 0]; rfl)) ?_
  rotate_left 1
  ·intro w hSw; (try dsimp only at hSw); go_simp; (first | done | with_reducible rfl)
  try simp only [Act.put, qI, qX, qY]
  refine anyT_takeA (i := 8) (v := ?_) (by simp only [qA, qS, qZ]; rfl) (by kernel_rfl) (by kernel_rfl) (by kernel_rfl) (by kernel_rfl) (fun _ _ _ h => h) (Or.inl ⟨by rfl, ?_⟩) (HAX.out _ hb0) (Or.inr (by rw [(blk (HBO.out _ hb0)).1 0]; rfl)) ?_
  rotate_left 1
  ·intro w hSw; (try dsimp only at hSw); go_simp; (first | done | with_reducible rfl)
  try simp only [Act.put, qI, qX, qY]
  refine anyT_takeA (i := 9) (v := ?_) (by simp only [qA, qS, qZ]; rfl) (by kernel_rfl) (by kernel_rfl) (by kernel_rfl) (by kernel_rfl) (fun _ _ _ h => h) (Or.inl ⟨by rfl, ?_⟩) (HAX.out _ hb0) (Or.inr (by rw [(blk (HBO.out _ hb0)).1 0]; rfl)) ?_
  rotate_left 1
  ·intro w hSw; (try dsimp only at hSw); go_simp; (first | done | with_reducible rfl)
  try simp only [Act.put, qI, qX, qY]
  refine anyT_take (i := 0) (v := ?_) (by simp only [qA, qZ]; rfl) (by kernel_rfl) (by kernel_rfl) (by kernel_rfl) (by kernel_rfl) (fun _ _ _ h => h) (Or.inl ⟨by rfl, ?_⟩) ⟨HAX.out _ hb0, by rw [(blk (HBO.out _ hb0)).1 0]; rfl⟩ ?_
  rotate_left 1
  ·intro w hSw; (try dsimp only at hSw); go_simp; (first | done | with_reducible rfl)
  try simp only [Act.put, qI, qX, qY]
  refine anyT_ready (rs := [10]) (by kernel_rfl) (by simp) ?_
  refine AllReadyT.cons (by simp only [qA, qS, qZ]; rfl) (fun K hK => ?_) AllReadyT.nil
  go_simp
  refine (HS.out _ hb0).mono ?_
  rintro e x1 ⟨sa1, sc1, rfl, hk1, hst1⟩
  have HK1 := Lib.hid hk1
  clear hk1
  have hb1 : Below W.heap.size W x1 := below_from hb0 hst1
  refine hK.out _ _ (HAX.out _ hb1) (Or.inr (by rw [(blk (HBO.out _ hb1)).1 0]; rfl)) ?_
  clear hK K
  try simp only [Act.put, qI, qX, qY]
  refine anyT_ready (rs := [11]) (by kernel_rfl) (by simp) ?_
  refine AllReadyT.cons (by simp only [qA, qS, qZ]; rfl) (fun K hK => ?_) AllReadyT.nil
  go_simp
  refine (HWr.out _ _ _ _ HK1.out).mono ?_
  rintro e x2 ⟨sa2, sc2, rfl, hk2, hst2⟩
  have HK2 := Lib.hid hk2
  clear hk2
  have hb2 : Below W.heap.size W x2 := below_from hb1 hst2
  refine hK.out _ _ (HAX.out _ hb2) (Or.inr (by rw [(blk (HBO.out _ hb2)).1 0]; rfl)) ?_
  clear hK K
  try simp only [Act.put, qI, qX, qY]
  refine anyT_ready (rs := [12]) (by kernel_rfl) (by simp) ?_
  refine AllReadyT.cons (by simp only [qA, qS, qZ]; rfl) (fun K hK => ?_) AllReadyT.nil
  have hbs3 := hb2.size
  have HRX3 := HRW.out _ hb2
  have HRY3 := HRW.out _ hb1
  have hsz3 : w6.heap.size ≤ x2.heap.size := Nat.le_trans HIN.out.2 hb2.size
  have hsy3 : w6.heap.size ≤ x1.heap.size := Nat.le_trans HIN.out.2 hb1.size
  obtain ⟨news3, hsrc3, hnews3⟩ := SliceR.src (P := Tryz.prog) (st := 33) rowNod (eltNod 11).pos (eltNod 11).ones HK2.out
  (refine step_append_X (by rfl) _ _ 33 33 (by rfl) rowNod (eltNod 11) w6.heap.size (.slice sv xs.length sc) _ (xs := xs) (ys := G) (news := news3) (by rfl) (by rfl) HRX3 hsz3 hsrc3 (news_apart (rdNod_stable _ _) HRY3 hsy3 hnews3) hxl ?_)
  intro va3 y3 hra3 hba3 hga3 _
  obtain ⟨wa3, wn3, wc3, hwe3⟩ : ∃ a n c, va3 = .slice a n c := by obtain ⟨a, c, e⟩ := hra3.slice; exact ⟨a, _, c, e⟩
  subst hwe3
  have HRA3 := Lib.hid hra3
  have HGA3 := Lib.hid hga3
  clear hra3 hga3 hsrc3 hnews3
  have hob3 : y3.heap[(w.heap.size + 1)]? = some (.cells #[.slice sv xs.length sc] 33) := (hba3.block _ (by have := hZB; have := hbs3; omega)).trans (HBO.out _ hb2)
  obtain ⟨qo3, fo3⟩ := blk hob3
  have ha3 := HAY.out _ hb2 y3 (HAX.out _ hb2) hba3
  refine hK.out _ _ (ha3) (Or.inr (by rw [qo3 0]; rfl)) ?_
  clear hK K
  try simp only [Act.put, qI, qX, qY]
  refine anyT_ready (rs := [13]) (by kernel_rfl) (by simp) ?_
  refine AllReadyT.cons (by simp only [qA, qS, qZ]; rfl) (fun K hK => ?_) AllReadyT.nil
  go_simp
  refine hK.out _ _ (⟨(setCell_block hbo).trans ha3.1, (setCell_block hbo2).trans ha3.2⟩) (Or.inl (by kernel_rfl)) ?_
  clear hK K
  try simp only [Act.put, qI, qX, qY]
  refine anyT_done (by kernel_rfl) ?_ _
  refine hR.out _ _ ?_
  have hfin := put_row (F := (fun p : List Cel => wrapO (lvBit 2 (p.headD default)) (gr (bitsK 1) p))) HIN.out.1 HIN.out.2 hB1 hB2 hB3 hwZ hb2 HRA3.out hba3 HGA3.out HRX3 HNE.out HGN.out hob3 HT.out
  gi_wp2_with fail
  exact ⟨hfin.1 _, hfin.2⟩
 case done =>
  rintro D ys W hD hys ⟨v9, t0, hR, hne, hb, hz⟩ hK
  have e : (ys.flatMap fun y : PartX l => (fun p : List Cel => wrapO (lvBit 2 (p.headD default)) (gr (bitsK 1) p)) (cutP l y.1)) = gr (bitsK (1 + 1)) l := by
   rw [gr_bit 2 1 l rfl, ← hys, List.flatMap_map]
  rw [e] at hR
  have hrow := RwX.row (rdNod_stable _ _) ((rowx_own D w6.heap.size 11 v9 (fun _ : Unit => gr (bitsK (1 + 1)) l)).putObj (s := ()) (.deferred none) hR (Nat.le_refl _) hK rfl)
  obtain ⟨s0, s0f⟩ := blk t0
  obtain ⟨va9, c9, rfl⟩ := hR.slice
  have HROW := Lib.hid hrow
  have HB9 := Lib.hid hb
  have HK9 := Lib.hid hK
  clear hR hb hK hne hrow e
  generalize (gr (bitsK (1 + 1)) l).length = n9 at *
  gi_wp2_with fail
  refine ⟨by simp, .inl ⟨_, _, rfl, run_takeDeferred HK9.out, ?_⟩⟩
  refine ⟨.slice va9 n9 c9, by simp [results, Tryz.results86, go_sem], ?_⟩
  refine ⟨_, rfl, SliceR.stable (rdNod_stable _ _) HROW.out (Keeps.refl _ _) (fun b h _ => Nat.le_trans (Nat.le_trans hww hwZ) h), ?_⟩
  exact HBW.out.trans ((HB9.out.trans (belowK_b (w := w1) (Nat.le_refl _) W D _ _ (by omega) HK9.out rfl rfl)).mono hww)
set_option maxRecDepth 200000 in
set_option maxHeartbeats 8000000 in
theorem styled_2 (HSt : ∀ (v : Value) (l : List Cel) (w w0 : World) (S : Nat → Prop), CelsR false w0 S v l → Below w0.heap.size w0 w → l.length ≤ 6000 →
  Calls Tryz.prog 86 #[v, .int .i64 4] w fun e w' => ∃ v', e = .returned v' ∧ NodsR true 11 w' (fun b => w.heap.size ≤ b) v' (gr (bitsK 2) l) ∧ Below w.heap.size w w')
  (v : Value) (l : List Cel) (w w0 : World) (S : Nat → Prop) (hv : CelsR false w0 S v l) (h0 : Below w0.heap.size w0 w) (hlen : l.length ≤ 6000) :
  Calls Tryz.prog 86 #[v, .int .i64 2] w fun e w' => ∃ v', e = .returned v' ∧ NodsR true 16 w' (fun b => w.heap.size ≤ b) v' (gr (bitsK (2 + 1)) l) ∧ Below w.heap.size w w' := by
 have hw := SliceR.below (rdOf_stable _) hv h0
 obtain ⟨va, vc, rfl⟩ := hv.slice
 have HV := Lib.hid hw
 have HSt := Lib.hid HSt
 clear hv hw
 refine (callsIn_wide (n := 6)).1 ?_
 refine callsIn_of_wp_marks Tryz.func86 rfl trivial ?_ rfl
 simp only [Tryz.ntmps86, List.size_toArray, List.length_cons, List.length_nil, Nat.reduceAdd, Nat.reduceSub, Array.replicate_succ, Array.replicate_zero, List.push_toArray, List.append_toArray, List.nil_append, List.cons_append]
 have hwf : ∀ f, Fence.wide.fn f := fun _ => trivial
 have hwd : Fence.wide.depth = none := rfl
 gi_wp2_with (gi_at_call 83; refine (callsIn_wide.2 (partsC_any _ _ _ _ _ _)).mono ?_; rintro e w5 ⟨rfl, rfl⟩)
 obtain ⟨w1, hw1⟩ : ∃ w1, w.alloc (.cells #[.int .i64 2] 3) = w1 := ⟨_, rfl⟩
 rw [hw1]
 obtain ⟨w6, hw6⟩ : ∃ w6, ((w1.alloc (.cells #[.slice none 0 0] 33)).alloc (.cells #[.slice va l.length vc] 29)).alloc (.cells #[.func (.func 94) #[] #[.pointer (some ⟨w.heap.size, 0, none⟩)]] 128) = w6 := ⟨_, rfl⟩
 rw [hw6]
 have hz1 : w1.heap.size = w.heap.size + 1 := by rw [← hw1]; simp
 have HBW : Hid (Below w.heap.size w w1) := Lib.hid (hw1 ▸ (Below.refl _ _).alloc (Nat.le_refl _) _)
 have HBB : Hid (w1.heap[w.heap.size]? = some (.cells #[.int .i64 2] 3)) := Lib.hid (hw1 ▸ heap_new _ _ rfl)
 have hb6 : Below w1.heap.size w1 w6 := hw6 ▸ (((Below.refl _ _).alloc (Nat.le_refl _) _).alloc (by simp) _).alloc (by simp; omega) _
 have hz6 : w6.heap.size = w1.heap.size + 3 := by rw [← hw6]; simp
 have m0 : w6.heap[w.heap.size + 1]? = some (.cells #[.slice none 0 0] 33) := hw6 ▸ heap_old _ _ (heap_old _ _ (heap_new _ _ (by omega)))
 have n0 : w6.heap[w.heap.size + 1 + 1]? = some (.cells #[.slice va l.length vc] 29) := hw6 ▸ heap_old _ _ (heap_new _ _ (by simp; omega))
 have n1 : w6.heap[w.heap.size + 1 + 1 + 1]? = some (.cells #[.func (.func 94) #[] #[.pointer (some ⟨w.heap.size, 0, none⟩)]] 128) := hw6 ▸ heap_new _ _ (by simp; omega)
 have hPL : PL (d := l) 16 (fun p : List Cel => wrapO (lvBit 1 (p.headD default)) (gr (bitsK 2) p)) w1 (w.heap.size + 1) w6.heap.size [] w6 := ⟨_, m0, RwX.nil _ _ _ _ _, .inl rfl, hb6, Nat.le_refl _⟩
 have N0 := Lib.hid (And.intro n0 n1)
 have hZB : w.heap.size + 1 < w6.heap.size := by omega
 have HZ6 := Lib.hid (And.intro hz6 hz1)
 have hB1 : w1.heap.size ≤ w.heap.size + 1 := by omega
 have hB2 : w.heap.size + 1 < w.heap.size + 1 + 1 := Nat.lt_succ_self _
 have hB3 := hZB
 have hwZ := hb6.size
 have hww := HBW.out.size
 clear hw6 m0 n0 n1 hz6 hw1 hz1
 refine rangeFunc_slotB rfl (by omega) (gf := 92) (lb := #[.pointer (some ⟨w.heap.size + 1 + 1, 0, none⟩), .pointer (some ⟨w.heap.size + 1 + 1 + 1, 0, none⟩)]) rfl trivial (enters_of Tryz.func92 (by kernel_rfl) rfl)
  (encs := partEnc (d := l) va vc 3) (n₀ := w1.heap.size) (base := w.heap.size + 1 + 1) (top := w6.heap.size) (S := fun ys => ys.map (fun y => cutP l y.1) = partsBy (bitR 1) l) (Sp := fun _ => True) (N := l.length) (w0 := w6) ?seq hb6.size (Below.refl _ _) (fun _ => rfl)
  (PL 16 (fun p : List Cel => wrapO (lvBit 1 (p.headD default)) (gr (bitsK 2) p)) w1 (w.heap.size + 1) w6.heap.size) (pl_own hb6.size) hPL ?act ?assign ?body ?done
 case seq =>
  intro l' J Jx W hW hJ _ hY h0
  exact parts1_styled 5 l' (w.heap.size + 1 + 1) (w.heap.size + 1 + 1 + 1) (w.heap.size + 1 + 1) w6.heap.size w.heap.size va vc l (bitR 1) S J Jx w1 W (HV.out.below (rdOf_stable _) HBW.out) (hb6.trans (hW.mono hb6.size)) (fun X hX x y => al_bit x y w.heap.size 1 (by omega) X (heap_below hX HBB.out)) ⟨by omega, by omega⟩ (by have := HZ6.out; omega) (heap_below hW N0.out.1) (heap_below hW N0.out.2) (by omega) hJ hY h0
 case assign =>
  intro l' pre x W K hI hK
  rw [show partEnc va vc 3 x = #[partV va vc 3 x.1] from rfl]
  gi_wp2
  exact hK
 case body =>
  intro l' pre x W hI hlt
  obtain ⟨v0, hD, hRW, hne, hb, hzW⟩ := hI
  have hpr := part_cels HV.out x
  have hpn := cut_ne x
  have hpz := cut_len x
  obtain ⟨P, hP⟩ : ∃ P, cutP l x.1 = P := ⟨_, rfl⟩
  have HT : Hid ((pre ++ [x]).flatMap (fun y => (fun p : List Cel => wrapO (lvBit 1 (p.headD default)) (gr (bitsK 2) p)) (cutP l y.1)) = pre.flatMap (fun y => (fun p : List Cel => wrapO (lvBit 1 (p.headD default)) (gr (bitsK 2) p)) (cutP l y.1)) ++ (fun p : List Cel => wrapO (lvBit 1 (p.headD default)) (gr (bitsK 2) p)) P) := Lib.hid (by rw [List.flatMap_append, ← hP]; simp)
  rw [hP] at hpr hpn hpz
  obtain ⟨pa, pc, hpe, hpl, hpm, hpx⟩ := cels_shape hpr
  rw [hpe]
  rw [hpe] at hpr
  obtain ⟨c, P', rfl⟩ : ∃ c P', P = c :: P' := by cases P with | nil => exact absurd rfl hpn | cons c P' => exact ⟨c, P', rfl⟩
  obtain ⟨bb, oo, e, hbz, c0, c1, c2⟩ := hpx 0 c rfl
  subst e
  simp only [Nat.zero_mul, Nat.add_zero] at c0 c1 c2
  obtain ⟨xs, hxs⟩ : ∃ xs, pre.flatMap (fun y : PartX l => (fun p : List Cel => wrapO (lvBit 1 (p.headD default)) (gr (bitsK 2) p)) (cutP l y.1)) = xs := ⟨_, rfl⟩
  have hxl0 : xs.length ≤ pre.length * 6000 := by
   rw [← hxs]
   exact flat_le_all _ 6000 pre (fun y => Nat.le_trans ((fun y => wrapO_len _ (cut_ne y) (gr_len _ _)) y) (Nat.le_trans (cut_len y) hlen))
  have hxl1 : pre.length * 6000 ≤ 6000 * 6000 := Nat.mul_le_mul_right _ (by omega)
  have hxl2 : xs.length ≤ 36000000 := by omega
  clear hxl1
  rw [hxs] at hRW hne HT
  have HRB := Lib.hid (rowx_block hRW hne)
  obtain ⟨sv, sc, hv0⟩ := hRW.slice
  subst hv0
  have HRW : Hid (∀ X, Below W.heap.size W X → RwX 35 4 (rdNod true 16) X w6.heap.size (.slice sv xs.length sc) xs) := Lib.hid fun X hX => RwX.below (rdNod_stable _ _) hRW (.all (by exact ⟨hX.os, hX.tape, hX.output, hX.size, fun b hz => hX.block b hz⟩))
  have HBO : Hid (∀ X, Below W.heap.size W X → X.heap[w.heap.size + 1]? = some (.cells #[.slice sv xs.length sc] 33)) := Lib.hid fun X hX => heap_below hX hD
  have HNE := Lib.hid hne
  have HIN := Lib.hid (And.intro hb hzW)
  have HPR := Lib.hid hpr
  obtain ⟨q0, g0⟩ := blk hD
  have i0 : (0 : Int) < (((c :: P').length : Nat) : Int) := by simp only [List.length_cons]; omega
  have hb0 : Below W.heap.size W W.drew := (Below.refl _ _).drew
  clear hpx hP hpn hRW hne hxs hxl0 hpr
  have HT : Hid ((pre ++ [x]).flatMap (fun y => wrapO (lvBit 1 ((cutP l y.1).headD default)) (gr (bitsK 2) (cutP l y.1))) = xs ++ wrapO (lvBit 1 c) (gr (bitsK 2) (c :: P'))) := HT
  have hgl := gr_len (bitsK 2) (c :: P')
  have hwl := wrapO_len (lvBit 1 c) (p := c :: P') (by simp) hgl
  have HGN : Hid (wrapO (lvBit 1 c) (gr (bitsK 2) (c :: P')) ≠ []) := Lib.hid (wrapO_ne (gr_ne _ (by simp)))
  have hgf := gr_fit (bitsK 2) (c :: P') (by omega) (bitsK_fit 2)
  have HS : Hid (∀ X, Below W.heap.size W X → Calls Tryz.prog 86 #[.slice (some ⟨bb, oo, none⟩) (c :: P').length pc, .int .i64 4] X fun e X' => ∃ sa sc, e = .returned (.slice sa (gr (bitsK 2) (c :: P')).length sc) ∧ NodsR true 11 X' (fun b => X.heap.size ≤ b) (.slice sa (gr (bitsK 2) (c :: P')).length sc) (gr (bitsK 2) (c :: P')) ∧ Below X.heap.size X X') := Lib.hid fun X hX => by
   refine (HSt.out _ _ X w S HPR.out (HBW.out.trans ((hb.trans (hX.mono hb.size)).mono hww)) (by omega)).mono ?_
   rintro e X' ⟨v', h1, h2, h3⟩
   obtain ⟨sa, sc, rfl⟩ := h2.slice
   exact ⟨sa, sc, h1, h2, h3⟩
  have HWr : Hid (∀ X X0 sa sc, NodsR true 11 X (fun b => X0 ≤ b) (.slice sa (gr (bitsK 2) (c :: P')).length sc) (gr (bitsK 2) (c :: P')) → Calls Tryz.prog 85 #[.int .i64 (bits .and .i64 c.bits 2), .string ⟨#[]⟩, .slice sa (gr (bitsK 2) (c :: P')).length sc] X fun e X' => ∃ sa sc, e = .returned (.slice sa (wrapO (lvBit 1 c) (gr (bitsK 2) (c :: P'))).length sc) ∧ NodsR true 16 X' (fun b => X.heap.size ≤ b) (.slice sa (wrapO (lvBit 1 c) (gr (bitsK 2) (c :: P'))).length sc) (wrapO (lvBit 1 c) (gr (bitsK 2) (c :: P'))) ∧ Below X.heap.size X X') := Lib.hid fun X X0 sa sc hk => by
   refine (wrap_high 11 (bits .and .i64 c.bits 2) [] _ _ true X X _ hk (Below.refl _ _) (by omega) hgf).mono ?_
   rintro e X' ⟨v', h', h1, h2, h3, h4⟩
   have ew : wrapN (bits .and .i64 c.bits 2) [] (gr (bitsK 2) (c :: P')) = wrapO (lvBit 1 c) (gr (bitsK 2) (c :: P')) := wrap_bit 1 (by omega) c _
   rw [ew] at h2
   have h2 := nods_mono' h4 h2
   obtain ⟨sa, sc, rfl⟩ := h2.slice
   exact ⟨sa, sc, h1, h2, h3⟩
  have hxl : xs.length + (wrapO (lvBit 1 c) (gr (bitsK 2) (c :: P'))).length ≤ 100000000 := by omega
  have HAA : Hid (∀ X, Below w1.heap.size w1 X → X.cell? ⟨bb, oo + 1, none⟩ = some (.int .i64 c.bits) ∧ X.cell? ⟨w.heap.size, 0, none⟩ = some (.int .i64 2)) := Lib.hid fun X hX => ⟨(hX.cell (p := ⟨bb, oo + 1, none⟩) (by show bb < w1.heap.size; omega)).trans ((HBW.out.cell (p := ⟨bb, oo + 1, none⟩) hbz).trans c1), by rw [(blk (heap_below hX HBB.out)).1 0]; rfl⟩
  have HAX : Hid (∀ X, Below W.heap.size W X → X.cell? ⟨bb, oo + 1, none⟩ = some (.int .i64 c.bits) ∧ X.cell? ⟨w.heap.size, 0, none⟩ = some (.int .i64 2)) := Lib.hid fun X hX => HAA.out X (hb.trans (hX.mono hb.size))
  have HAY : Hid (∀ X, Below W.heap.size W X → ∀ Y, (X.cell? ⟨bb, oo + 1, none⟩ = some (.int .i64 c.bits) ∧ X.cell? ⟨w.heap.size, 0, none⟩ = some (.int .i64 2)) → Below w6.heap.size X Y → Y.cell? ⟨bb, oo + 1, none⟩ = some (.int .i64 c.bits) ∧ Y.cell? ⟨w.heap.size, 0, none⟩ = some (.int .i64 2)) := Lib.hid fun X hX Y h hY => ⟨(hY.cell (p := ⟨bb, oo + 1, none⟩) (by show bb < w6.heap.size; omega)).trans h.1, (hY.cell (p := ⟨w.heap.size, 0, none⟩) (by show w.heap.size < w6.heap.size; omega)).trans h.2⟩
  have hbo : w.heap.size + 1 ≠ bb := by omega
  have hbo2 : w.heap.size + 1 ≠ w.heap.size := by omega
  generalize gr (bitsK 2) (c :: P') = G0 at *
  generalize hGG : wrapO (lvBit 1 c) G0 = G at *
  clear hgl hwl hgf hGG hb HV
  gi_wp2_with fail
  refine wpIn_region_T (fun w' => w'.cell? ⟨bb, oo + 1, none⟩ = some (.int .i64 c.bits) ∧ w'.cell? ⟨w.heap.size, 0, none⟩ = some (.int .i64 2)) (fun w' => w'.cell? ⟨w.heap.size + 1, 0, none⟩ = some (.slice sv xs.length sc)) 13 (by kernel_rfl) (by kernel_rfl) (fun R hR => ?_)
  refine anyT_takeA (i := 1) (v := ?_) (by simp only [qA, qS, qZ]; rfl) (by kernel_rfl) (by kernel_rfl) (by kernel_rfl) (by kernel_rfl) (fun _ _ _ h => h) (Or.inl ⟨by rfl, ?_⟩) (HAX.out _ hb0) (Or.inr (by rw [(blk (HBO.out _ hb0)).1 0]; rfl)) ?_
  rotate_left 1
  ·intro w hSw; (try dsimp only at hSw); go_simp; (first | done | with_reducible rfl)
  try simp only [Act.put, qI, qX, qY]
  refine anyT_takeA (i := 2) (v := ?_) (by simp only [qA, qS, qZ]; rfl) (by kernel_rfl) (by kernel_rfl) (by kernel_rfl) (by kernel_rfl) (fun _ _ _ h => h) (Or.inl ⟨by rfl, ?_⟩) (HAX.out _ hb0) (Or.inr (by rw [(blk (HBO.out _ hb0)).1 0]; rfl)) ?_
  rotate_left 1
  ·intro w hSw; (try dsimp only at hSw); go_simp; (first | done | with_reducible rfl)
  try simp only [Act.put, qI, qX, qY]
  refine anyT_takeA (i := 3) (v := ?_) (by simp only [qA, qS, qZ]; rfl) (by kernel_rfl) (by kernel_rfl) (by kernel_rfl) (by kernel_rfl) (fun _ _ _ h => h) (Or.inl ⟨by rfl, ?_⟩) (HAX.out _ hb0) (Or.inr (by rw [(blk (HBO.out _ hb0)).1 0]; rfl)) ?_
  rotate_left 1
  ·intro w hSw; (try dsimp only at hSw); go_simp; (first | done | with_reducible rfl)
  try simp only [Act.put, qI, qX, qY]
  refine anyT_takeA (i := 4) (v := ?_) (by simp only [qA, qS, qZ]; rfl) (by kernel_rfl) (by kernel_rfl) (by kernel_rfl) (by kernel_rfl) (fun _ _ _ h => h) (Or.inl ⟨by rfl, ?_⟩) (HAX.out _ hb0) (Or.inr (by rw [(blk (HBO.out _ hb0)).1 0]; rfl)) ?_
  rotate_left 1
  ·intro w hSw; (try dsimp only at hSw); go_simp; (first | done | with_reducible rfl)
  try simp only [Act.put, qI, qX, qY]
  refine anyT_takeA (i := 5) (v := ?_) (by simp only [qA, qS, qZ]; rfl) (by kernel_rfl) (by kernel_rfl) (by kernel_rfl) (by kernel_rfl) (fun _ _ _ h => h) (Or.inl ⟨by rfl, ?_⟩) (HAX.out _ hb0) (Or.inr (by rw [(blk (HBO.out _ hb0)).1 0]; rfl)) ?_
  rotate_left 1
  ·intro w hSw; (try dsimp only at hSw); go_simp; (first | done | with_reducible rfl)
  try simp only [Act.put, qI, qX, qY]
  refine anyT_takeA (i := 6) (v := ?_) (by simp only [qA, qS, qZ]; rfl) (by kernel_rfl) (by kernel_rfl) (by kernel_rfl) (by kernel_rfl) (fun _ _ _ h => h) (Or.inl ⟨by rfl, ?_⟩) (HAX.out _ hb0) (Or.inr (by rw [(blk (HBO.out _ hb0)).1 0]; rfl)) ?_
  rotate_left 1
  ·intro w hSw; (try dsimp only at hSw); go_simp; (first | done | with_reducible rfl)
  try simp only [Act.put, qI, qX, qY]
  refine anyT_takeA (i := 7) (v := ?_) (by simp only [qA, qS, qZ]; rfl) (by kernel_rfl) (by kernel_rfl) (by kernel_rfl) (by kernel_rfl) (fun _ _ _ h => h) (Or.inl ⟨by rfl, ?_⟩) (HAX.out _ hb0) (Or.inr (by rw [(blk (HBO.out _ hb0)).1 0]; rfl)) ?_
  rotate_left 1
  ·intro w hSw; (try dsimp only at hSw); go_simp; (first | done | with_reducible rfl)
  try simp only [Act.put, qI, qX, qY]
  refine anyT_takeA (i := 8) (v := ?_) (by simp only [qA, qS, qZ]; rfl) (by kernel_rfl) (by kernel_rfl) (by kernel_rfl) (by kernel_rfl) (fun _ _ _ h => h) (Or.inl ⟨by rfl, ?_⟩) (HAX.out _ hb0) (Or.inr (by rw [(blk (HBO.out _ hb0)).1 0]; rfl)) ?_
  rotate_left 1
  ·intro w hSw; (try dsimp only at hSw); go_simp; (first | done | with_reducible rfl)
  try simp only [Act.put, qI, qX, qY]
  refine anyT_takeA (i := 9) (v := ?_) (by simp only [qA, qS, qZ]; rfl) (by kernel_rfl) (by kernel_rfl) (by kernel_rfl) (by kernel_rfl) (fun _ _ _ h => h) (Or.inl ⟨by rfl, ?_⟩) (HAX.out _ hb0) (Or.inr (by rw [(blk (HBO.out _ hb0)).1 0]; rfl)) ?_
  rotate_left 1
  ·intro w hSw; (try dsimp only at hSw); go_simp; (first | done | with_reducible rfl)
  try simp only [Act.put, qI, qX, qY]
  refine anyT_take (i := 0) (v := ?_) (by simp only [qA, qZ]; rfl) (by kernel_rfl) (by kernel_rfl) (by kernel_rfl) (by kernel_rfl) (fun _ _ _ h => h) (Or.inl ⟨by rfl, ?_⟩) ⟨HAX.out _ hb0, by rw [(blk (HBO.out _ hb0)).1 0]; rfl⟩ ?_
  rotate_left 1
  ·intro w hSw; (try dsimp only at hSw); go_simp; (first | done | with_reducible rfl)
  try simp only [Act.put, qI, qX, qY]
  refine anyT_ready (rs := [10]) (by kernel_rfl) (by simp) ?_
  refine AllReadyT.cons (by simp only [qA, qS, qZ]; rfl) (fun K hK => ?_) AllReadyT.nil
  go_simp
  refine (HS.out _ hb0).mono ?_
  rintro e x1 ⟨sa1, sc1, rfl, hk1, hst1⟩
  have HK1 := Lib.hid hk1
  clear hk1
  have hb1 : Below W.heap.size W x1 := below_from hb0 hst1
  refine hK.out _ _ (HAX.out _ hb1) (Or.inr (by rw [(blk (HBO.out _ hb1)).1 0]; rfl)) ?_
  clear hK K
  try simp only [Act.put, qI, qX, qY]
  refine anyT_ready (rs := [11]) (by kernel_rfl) (by simp) ?_
  refine AllReadyT.cons (by simp only [qA, qS, qZ]; rfl) (fun K hK => ?_) AllReadyT.nil
  go_simp
  refine (HWr.out _ _ _ _ HK1.out).mono ?_
  rintro e x2 ⟨sa2, sc2, rfl, hk2, hst2⟩
  have HK2 := Lib.hid hk2
  clear hk2
  have hb2 : Below W.heap.size W x2 := below_from hb1 hst2
  refine hK.out _ _ (HAX.out _ hb2) (Or.inr (by rw [(blk (HBO.out _ hb2)).1 0]; rfl)) ?_
  clear hK K
  try simp only [Act.put, qI, qX, qY]
  refine anyT_ready (rs := [12]) (by kernel_rfl) (by simp) ?_
  refine AllReadyT.cons (by simp only [qA, qS, qZ]; rfl) (fun K hK => ?_) AllReadyT.nil
  have hbs3 := hb2.size
  have HRX3 := HRW.out _ hb2
  have HRY3 := HRW.out _ hb1
  have hsz3 : w6.heap.size ≤ x2.heap.size := Nat.le_trans HIN.out.2 hb2.size
  have hsy3 : w6.heap.size ≤ x1.heap.size := Nat.le_trans HIN.out.2 hb1.size
  obtain ⟨news3, hsrc3, hnews3⟩ := SliceR.src (P := Tryz.prog) (st := 33) rowNod (eltNod 16).pos (eltNod 16).ones HK2.out
  (refine step_append_X (by rfl) _ _ 33 33 (by rfl) rowNod (eltNod 16) w6.heap.size (.slice sv xs.length sc) _ (xs := xs) (ys := G) (news := news3) (by rfl) (by rfl) HRX3 hsz3 hsrc3 (news_apart (rdNod_stable _ _) HRY3 hsy3 hnews3) hxl ?_)
  intro va3 y3 hra3 hba3 hga3 _
  obtain ⟨wa3, wn3, wc3, hwe3⟩ : ∃ a n c, va3 = .slice a n c := by obtain ⟨a, c, e⟩ := hra3.slice; exact ⟨a, _, c, e⟩
  subst hwe3
  have HRA3 := Lib.hid hra3
  have HGA3 := Lib.hid hga3
  clear hra3 hga3 hsrc3 hnews3
  have hob3 : y3.heap[(w.heap.size + 1)]? = some (.cells #[.slice sv xs.length sc] 33) := (hba3.block _ (by have := hZB; have := hbs3; omega)).trans (HBO.out _ hb2)
  obtain ⟨qo3, fo3⟩ := blk hob3
  have ha3 := HAY.out _ hb2 y3 (HAX.out _ hb2) hba3
  refine hK.out _ _ (ha3) (Or.inr (by rw [qo3 0]; rfl)) ?_
  clear hK K
  try simp only [Act.put, qI, qX, qY]
  refine anyT_ready (rs := [13]) (by kernel_rfl) (by simp) ?_
  refine AllReadyT.cons (by simp only [qA, qS, qZ]; rfl) (fun K hK => ?_) AllReadyT.nil
  go_simp
  refine hK.out _ _ (⟨(setCell_block hbo).trans ha3.1, (setCell_block hbo2).trans ha3.2⟩) (Or.inl (by kernel_rfl)) ?_
  clear hK K
  try simp only [Act.put, qI, qX, qY]
  refine anyT_done (by kernel_rfl) ?_ _
  refine hR.out _ _ ?_
  have hfin := put_row (F := (fun p : List Cel => wrapO (lvBit 1 (p.headD default)) (gr (bitsK 2) p))) HIN.out.1 HIN.out.2 hB1 hB2 hB3 hwZ hb2 HRA3.out hba3 HGA3.out HRX3 HNE.out HGN.out hob3 HT.out
  gi_wp2_with fail
  exact ⟨hfin.1 _, hfin.2⟩
 case done =>
  rintro D ys W hD hys ⟨v9, t0, hR, hne, hb, hz⟩ hK
  have e : (ys.flatMap fun y : PartX l => (fun p : List Cel => wrapO (lvBit 1 (p.headD default)) (gr (bitsK 2) p)) (cutP l y.1)) = gr (bitsK (2 + 1)) l := by
   rw [gr_bit 1 2 l rfl, ← hys, List.flatMap_map]
  rw [e] at hR
  have hrow := RwX.row (rdNod_stable _ _) ((rowx_own D w6.heap.size 16 v9 (fun _ : Unit => gr (bitsK (2 + 1)) l)).putObj (s := ()) (.deferred none) hR (Nat.le_refl _) hK rfl)
  obtain ⟨s0, s0f⟩ := blk t0
  obtain ⟨va9, c9, rfl⟩ := hR.slice
  have HROW := Lib.hid hrow
  have HB9 := Lib.hid hb
  have HK9 := Lib.hid hK
  clear hR hb hK hne hrow e
  generalize (gr (bitsK (2 + 1)) l).length = n9 at *
  gi_wp2_with fail
  refine ⟨by simp, .inl ⟨_, _, rfl, run_takeDeferred HK9.out, ?_⟩⟩
  refine ⟨.slice va9 n9 c9, by simp [results, Tryz.results86, go_sem], ?_⟩
  refine ⟨_, rfl, SliceR.stable (rdNod_stable _ _) HROW.out (Keeps.refl _ _) (fun b h _ => Nat.le_trans (Nat.le_trans hww hwZ) h), ?_⟩
  exact HBW.out.trans ((HB9.out.trans (belowK_b (w := w1) (Nat.le_refl _) W D _ _ (by omega) HK9.out rfl rfl)).mono hww)
set_option maxRecDepth 200000 in
set_option maxHeartbeats 8000000 in
theorem styled_1 (HSt : ∀ (v : Value) (l : List Cel) (w w0 : World) (S : Nat → Prop), CelsR false w0 S v l → Below w0.heap.size w0 w → l.length ≤ 6000 →
  Calls Tryz.prog 86 #[v, .int .i64 2] w fun e w' => ∃ v', e = .returned v' ∧ NodsR true 16 w' (fun b => w.heap.size ≤ b) v' (gr (bitsK 3) l) ∧ Below w.heap.size w w')
  (v : Value) (l : List Cel) (w w0 : World) (S : Nat → Prop) (hv : CelsR false w0 S v l) (h0 : Below w0.heap.size w0 w) (hlen : l.length ≤ 6000) :
  Calls Tryz.prog 86 #[v, .int .i64 1] w fun e w' => ∃ v', e = .returned v' ∧ NodsR true 21 w' (fun b => w.heap.size ≤ b) v' (gr (bitsK (3 + 1)) l) ∧ Below w.heap.size w w' := by
 have hw := SliceR.below (rdOf_stable _) hv h0
 obtain ⟨va, vc, rfl⟩ := hv.slice
 have HV := Lib.hid hw
 have HSt := Lib.hid HSt
 clear hv hw
 refine (callsIn_wide (n := 6)).1 ?_
 refine callsIn_of_wp_marks Tryz.func86 rfl trivial ?_ rfl
 simp only [Tryz.ntmps86, List.size_toArray, List.length_cons, List.length_nil, Nat.reduceAdd, Nat.reduceSub, Array.replicate_succ, Array.replicate_zero, List.push_toArray, List.append_toArray, List.nil_append, List.cons_append]
 have hwf : ∀ f, Fence.wide.fn f := fun _ => trivial
 have hwd : Fence.wide.depth = none := rfl
 gi_wp2_with (gi_at_call 83; refine (callsIn_wide.2 (partsC_any _ _ _ _ _ _)).mono ?_; rintro e w5 ⟨rfl, rfl⟩)
 obtain ⟨w1, hw1⟩ : ∃ w1, w.alloc (.cells #[.int .i64 1] 3) = w1 := ⟨_, rfl⟩
 rw [hw1]
 obtain ⟨w6, hw6⟩ : ∃ w6, ((w1.alloc (.cells #[.slice none 0 0] 33)).alloc (.cells #[.slice va l.length vc] 29)).alloc (.cells #[.func (.func 94) #[] #[.pointer (some ⟨w.heap.size, 0, none⟩)]] 128) = w6 := ⟨_, rfl⟩
 rw [hw6]
 have hz1 : w1.heap.size = w.heap.size + 1 := by rw [← hw1]; simp
 have HBW : Hid (Below w.heap.size w w1) := Lib.hid (hw1 ▸ (Below.refl _ _).alloc (Nat.le_refl _) _)
 have HBB : Hid (w1.heap[w.heap.size]? = some (.cells #[.int .i64 1] 3)) := Lib.hid (hw1 ▸ heap_new _ _ rfl)
 have hb6 : Below w1.heap.size w1 w6 := hw6 ▸ (((Below.refl _ _).alloc (Nat.le_refl _) _).alloc (by simp) _).alloc (by simp; omega) _
 have hz6 : w6.heap.size = w1.heap.size + 3 := by rw [← hw6]; simp
 have m0 : w6.heap[w.heap.size + 1]? = some (.cells #[.slice none 0 0] 33) := hw6 ▸ heap_old _ _ (heap_old _ _ (heap_new _ _ (by omega)))
 have n0 : w6.heap[w.heap.size + 1 + 1]? = some (.cells #[.slice va l.length vc] 29) := hw6 ▸ heap_old _ _ (heap_new _ _ (by simp; omega))
 have n1 : w6.heap[w.heap.size + 1 + 1 + 1]? = some (.cells #[.func (.func 94) #[] #[.pointer (some ⟨w.heap.size, 0, none⟩)]] 128) := hw6 ▸ heap_new _ _ (by simp; omega)
 have hPL : PL (d := l) 21 (fun p : List Cel => wrapO (lvBit 0 (p.headD default)) (gr (bitsK 3) p)) w1 (w.heap.size + 1) w6.heap.size [] w6 := ⟨_, m0, RwX.nil _ _ _ _ _, .inl rfl, hb6, Nat.le_refl _⟩
 have N0 := Lib.hid (And.intro n0 n1)
 have hZB : w.heap.size + 1 < w6.heap.size := by omega
 have HZ6 := Lib.hid (And.intro hz6 hz1)
 have hB1 : w1.heap.size ≤ w.heap.size + 1 := by omega
 have hB2 : w.heap.size + 1 < w.heap.size + 1 + 1 := Nat.lt_succ_self _
 have hB3 := hZB
 have hwZ := hb6.size
 have hww := HBW.out.size
 clear hw6 m0 n0 n1 hz6 hw1 hz1
 refine rangeFunc_slotB rfl (by omega) (gf := 92) (lb := #[.pointer (some ⟨w.heap.size + 1 + 1, 0, none⟩), .pointer (some ⟨w.heap.size + 1 + 1 + 1, 0, none⟩)]) rfl trivial (enters_of Tryz.func92 (by kernel_rfl) rfl)
  (encs := partEnc (d := l) va vc 3) (n₀ := w1.heap.size) (base := w.heap.size + 1 + 1) (top := w6.heap.size) (S := fun ys => ys.map (fun y => cutP l y.1) = partsBy (bitR 0) l) (Sp := fun _ => True) (N := l.length) (w0 := w6) ?seq hb6.size (Below.refl _ _) (fun _ => rfl)
  (PL 21 (fun p : List Cel => wrapO (lvBit 0 (p.headD default)) (gr (bitsK 3) p)) w1 (w.heap.size + 1) w6.heap.size) (pl_own hb6.size) hPL ?act ?assign ?body ?done
 case seq =>
  intro l' J Jx W hW hJ _ hY h0
  exact parts1_styled 5 l' (w.heap.size + 1 + 1) (w.heap.size + 1 + 1 + 1) (w.heap.size + 1 + 1) w6.heap.size w.heap.size va vc l (bitR 0) S J Jx w1 W (HV.out.below (rdOf_stable _) HBW.out) (hb6.trans (hW.mono hb6.size)) (fun X hX x y => al_bit x y w.heap.size 0 (by omega) X (heap_below hX HBB.out)) ⟨by omega, by omega⟩ (by have := HZ6.out; omega) (heap_below hW N0.out.1) (heap_below hW N0.out.2) (by omega) hJ hY h0
 case assign =>
  intro l' pre x W K hI hK
  rw [show partEnc va vc 3 x = #[partV va vc 3 x.1] from rfl]
  gi_wp2
  exact hK
 case body =>
  intro l' pre x W hI hlt
  obtain ⟨v0, hD, hRW, hne, hb, hzW⟩ := hI
  have hpr := part_cels HV.out x
  have hpn := cut_ne x
  have hpz := cut_len x
  obtain ⟨P, hP⟩ : ∃ P, cutP l x.1 = P := ⟨_, rfl⟩
  have HT : Hid ((pre ++ [x]).flatMap (fun y => (fun p : List Cel => wrapO (lvBit 0 (p.headD default)) (gr (bitsK 3) p)) (cutP l y.1)) = pre.flatMap (fun y => (fun p : List Cel => wrapO (lvBit 0 (p.headD default)) (gr (bitsK 3) p)) (cutP l y.1)) ++ (fun p : List Cel => wrapO (lvBit 0 (p.headD default)) (gr (bitsK 3) p)) P) := Lib.hid (by rw [List.flatMap_append, ← hP]; simp)
  rw [hP] at hpr hpn hpz
  obtain ⟨pa, pc, hpe, hpl, hpm, hpx⟩ := cels_shape hpr
  rw [hpe]
  rw [hpe] at hpr
  obtain ⟨c, P', rfl⟩ : ∃ c P', P = c :: P' := by cases P with | nil => exact absurd rfl hpn | cons c P' => exact ⟨c, P', rfl⟩
  obtain ⟨bb, oo, e, hbz, c0, c1, c2⟩ := hpx 0 c rfl
  subst e
  simp only [Nat.zero_mul, Nat.add_zero] at c0 c1 c2
  obtain ⟨xs, hxs⟩ : ∃ xs, pre.flatMap (fun y : PartX l => (fun p : List Cel => wrapO (lvBit 0 (p.headD default)) (gr (bitsK 3) p)) (cutP l y.1)) = xs := ⟨_, rfl⟩
  have hxl0 : xs.length ≤ pre.length * 6000 := by
   rw [← hxs]
   exact flat_le_all _ 6000 pre (fun y => Nat.le_trans ((fun y => wrapO_len _ (cut_ne y) (gr_len _ _)) y) (Nat.le_trans (cut_len y) hlen))
  have hxl1 : pre.length * 6000 ≤ 6000 * 6000 := Nat.mul_le_mul_right _ (by omega)
  have hxl2 : xs.length ≤ 36000000 := by omega
  clear hxl1
  rw [hxs] at hRW hne HT
  have HRB := Lib.hid (rowx_block hRW hne)
  obtain ⟨sv, sc, hv0⟩ := hRW.slice
  subst hv0
  have HRW : Hid (∀ X, Below W.heap.size W X → RwX 35 4 (rdNod true 21) X w6.heap.size (.slice sv xs.length sc) xs) := Lib.hid fun X hX => RwX.below (rdNod_stable _ _) hRW (.all (by exact ⟨hX.os, hX.tape, hX.output, hX.size, fun b hz => hX.block b hz⟩))
  have HBO : Hid (∀ X, Below W.heap.size W X → X.heap[w.heap.size + 1]? = some (.cells #[.slice sv xs.length sc] 33)) := Lib.hid fun X hX => heap_below hX hD
  have HNE := Lib.hid hne
  have HIN := Lib.hid (And.intro hb hzW)
  have HPR := Lib.hid hpr
  obtain ⟨q0, g0⟩ := blk hD
  have i0 : (0 : Int) < (((c :: P').length : Nat) : Int) := by simp only [List.length_cons]; omega
  have hb0 : Below W.heap.size W W.drew := (Below.refl _ _).drew
  clear hpx hP hpn hRW hne hxs hxl0 hpr
  have HT : Hid ((pre ++ [x]).flatMap (fun y => wrapO (lvBit 0 ((cutP l y.1).headD default)) (gr (bitsK 3) (cutP l y.1))) = xs ++ wrapO (lvBit 0 c) (gr (bitsK 3) (c :: P'))) := HT
  have hgl := gr_len (bitsK 3) (c :: P')
  have hwl := wrapO_len (lvBit 0 c) (p := c :: P') (by simp) hgl
  have HGN : Hid (wrapO (lvBit 0 c) (gr (bitsK 3) (c :: P')) ≠ []) := Lib.hid (wrapO_ne (gr_ne _ (by simp)))
  have hgf := gr_fit (bitsK 3) (c :: P') (by omega) (bitsK_fit 3)
  have HS : Hid (∀ X, Below W.heap.size W X → Calls Tryz.prog 86 #[.slice (some ⟨bb, oo, none⟩) (c :: P').length pc, .int .i64 2] X fun e X' => ∃ sa sc, e = .returned (.slice sa (gr (bitsK 3) (c :: P')).length sc) ∧ NodsR true 16 X' (fun b => X.heap.size ≤ b) (.slice sa (gr (bitsK 3) (c :: P')).length sc) (gr (bitsK 3) (c :: P')) ∧ Below X.heap.size X X') := Lib.hid fun X hX => by
   refine (HSt.out _ _ X w S HPR.out (HBW.out.trans ((hb.trans (hX.mono hb.size)).mono hww)) (by omega)).mono ?_
   rintro e X' ⟨v', h1, h2, h3⟩
   obtain ⟨sa, sc, rfl⟩ := h2.slice
   exact ⟨sa, sc, h1, h2, h3⟩
  have HWr : Hid (∀ X X0 sa sc, NodsR true 16 X (fun b => X0 ≤ b) (.slice sa (gr (bitsK 3) (c :: P')).length sc) (gr (bitsK 3) (c :: P')) → Calls Tryz.prog 85 #[.int .i64 (bits .and .i64 c.bits 1), .string ⟨#[]⟩, .slice sa (gr (bitsK 3) (c :: P')).length sc] X fun e X' => ∃ sa sc, e = .returned (.slice sa (wrapO (lvBit 0 c) (gr (bitsK 3) (c :: P'))).length sc) ∧ NodsR true 21 X' (fun b => X.heap.size ≤ b) (.slice sa (wrapO (lvBit 0 c) (gr (bitsK 3) (c :: P'))).length sc) (wrapO (lvBit 0 c) (gr (bitsK 3) (c :: P'))) ∧ Below X.heap.size X X') := Lib.hid fun X X0 sa sc hk => by
   refine (wrap_high 16 (bits .and .i64 c.bits 1) [] _ _ true X X _ hk (Below.refl _ _) (by omega) hgf).mono ?_
   rintro e X' ⟨v', h', h1, h2, h3, h4⟩
   have ew : wrapN (bits .and .i64 c.bits 1) [] (gr (bitsK 3) (c :: P')) = wrapO (lvBit 0 c) (gr (bitsK 3) (c :: P')) := wrap_bit 0 (by omega) c _
   rw [ew] at h2
   have h2 := nods_mono' h4 h2
   obtain ⟨sa, sc, rfl⟩ := h2.slice
   exact ⟨sa, sc, h1, h2, h3⟩
  have hxl : xs.length + (wrapO (lvBit 0 c) (gr (bitsK 3) (c :: P'))).length ≤ 100000000 := by omega
  have HAA : Hid (∀ X, Below w1.heap.size w1 X → X.cell? ⟨bb, oo + 1, none⟩ = some (.int .i64 c.bits) ∧ X.cell? ⟨w.heap.size, 0, none⟩ = some (.int .i64 1)) := Lib.hid fun X hX => ⟨(hX.cell (p := ⟨bb, oo + 1, none⟩) (by show bb < w1.heap.size; omega)).trans ((HBW.out.cell (p := ⟨bb, oo + 1, none⟩) hbz).trans c1), by rw [(blk (heap_below hX HBB.out)).1 0]; rfl⟩
  have HAX : Hid (∀ X, Below W.heap.size W X → X.cell? ⟨bb, oo + 1, none⟩ = some (.int .i64 c.bits) ∧ X.cell? ⟨w.heap.size, 0, none⟩ = some (.int .i64 1)) := Lib.hid fun X hX => HAA.out X (hb.trans (hX.mono hb.size))
  have HAY : Hid (∀ X, Below W.heap.size W X → ∀ Y, (X.cell? ⟨bb, oo + 1, none⟩ = some (.int .i64 c.bits) ∧ X.cell? ⟨w.heap.size, 0, none⟩ = some (.int .i64 1)) → Below w6.heap.size X Y → Y.cell? ⟨bb, oo + 1, none⟩ = some (.int .i64 c.bits) ∧ Y.cell? ⟨w.heap.size, 0, none⟩ = some (.int .i64 1)) := Lib.hid fun X hX Y h hY => ⟨(hY.cell (p := ⟨bb, oo + 1, none⟩) (by show bb < w6.heap.size; omega)).trans h.1, (hY.cell (p := ⟨w.heap.size, 0, none⟩) (by show w.heap.size < w6.heap.size; omega)).trans h.2⟩
  have hbo : w.heap.size + 1 ≠ bb := by omega
  have hbo2 : w.heap.size + 1 ≠ w.heap.size := by omega
  generalize gr (bitsK 3) (c :: P') = G0 at *
  generalize hGG : wrapO (lvBit 0 c) G0 = G at *
  clear hgl hwl hgf hGG hb HV
  gi_wp2_with fail
  refine wpIn_region_T (fun w' => w'.cell? ⟨bb, oo + 1, none⟩ = some (.int .i64 c.bits) ∧ w'.cell? ⟨w.heap.size, 0, none⟩ = some (.int .i64 1)) (fun w' => w'.cell? ⟨w.heap.size + 1, 0, none⟩ = some (.slice sv xs.length sc)) 13 (by kernel_rfl) (by kernel_rfl) (fun R hR => ?_)
  refine anyT_takeA (i := 1) (v := ?_) (by simp only [qA, qS, qZ]; rfl) (by kernel_rfl) (by kernel_rfl) (by kernel_rfl) (by kernel_rfl) (fun _ _ _ h => h) (Or.inl ⟨by rfl, ?_⟩) (HAX.out _ hb0) (Or.inr (by rw [(blk (HBO.out _ hb0)).1 0]; rfl)) ?_
  rotate_left 1
  ·intro w hSw; (try dsimp only at hSw); go_simp; (first | done | with_reducible rfl)
  try simp only [Act.put, qI, qX, qY]
  refine anyT_takeA (i := 2) (v := ?_) (by simp only [qA, qS, qZ]; rfl) (by kernel_rfl) (by kernel_rfl) (by kernel_rfl) (by kernel_rfl) (fun _ _ _ h => h) (Or.inl ⟨by rfl, ?_⟩) (HAX.out _ hb0) (Or.inr (by rw [(blk (HBO.out _ hb0)).1 0]; rfl)) ?_
  rotate_left 1
  ·intro w hSw; (try dsimp only at hSw); go_simp; (first | done | with_reducible rfl)
  try simp only [Act.put, qI, qX, qY]
  refine anyT_takeA (i := 3) (v := ?_) (by simp only [qA, qS, qZ]; rfl) (by kernel_rfl) (by kernel_rfl) (by kernel_rfl) (by kernel_rfl) (fun _ _ _ h => h) (Or.inl ⟨by rfl, ?_⟩) (HAX.out _ hb0) (Or.inr (by rw [(blk (HBO.out _ hb0)).1 0]; rfl)) ?_
  rotate_left 1
  ·intro w hSw; (try dsimp only at hSw); go_simp; (first | done | with_reducible rfl)
  try simp only [Act.put, qI, qX, qY]
  refine anyT_takeA (i := 4) (v := ?_) (by simp only [qA, qS, qZ]; rfl) (by kernel_rfl) (by kernel_rfl) (by kernel_rfl) (by kernel_rfl) (fun _ _ _ h => h) (Or.inl ⟨by rfl, ?_⟩) (HAX.out _ hb0) (Or.inr (by rw [(blk (HBO.out _ hb0)).1 0]; rfl)) ?_
  rotate_left 1
  ·intro w hSw; (try dsimp only at hSw); go_simp; (first | done | with_reducible rfl)
  try simp only [Act.put, qI, qX, qY]
  refine anyT_takeA (i := 5) (v := ?_) (by simp only [qA, qS, qZ]; rfl) (by kernel_rfl) (by kernel_rfl) (by kernel_rfl) (by kernel_rfl) (fun _ _ _ h => h) (Or.inl ⟨by rfl, ?_⟩) (HAX.out _ hb0) (Or.inr (by rw [(blk (HBO.out _ hb0)).1 0]; rfl)) ?_
  rotate_left 1
  ·intro w hSw; (try dsimp only at hSw); go_simp; (first | done | with_reducible rfl)
  try simp only [Act.put, qI, qX, qY]
  refine anyT_takeA (i := 6) (v := ?_) (by simp only [qA, qS, qZ]; rfl) (by kernel_rfl) (by kernel_rfl) (by kernel_rfl) (by kernel_rfl) (fun _ _ _ h => h) (Or.inl ⟨by rfl, ?_⟩) (HAX.out _ hb0) (Or.inr (by rw [(blk (HBO.out _ hb0)).1 0]; rfl)) ?_
  rotate_left 1
  ·intro w hSw; (try dsimp only at hSw); go_simp; (first | done | with_reducible rfl)
  try simp only [Act.put, qI, qX, qY]
  refine anyT_takeA (i := 7) (v := ?_) (by simp only [qA, qS, qZ]; rfl) (by kernel_rfl) (by kernel_rfl) (by kernel_rfl) (by kernel_rfl) (fun _ _ _ h => h) (Or.inl ⟨by rfl, ?_⟩) (HAX.out _ hb0) (Or.inr (by rw [(blk (HBO.out _ hb0)).1 0]; rfl)) ?_
  rotate_left 1
  ·intro w hSw; (try dsimp only at hSw); go_simp; (first | done | with_reducible rfl)
  try simp only [Act.put, qI, qX, qY]
  refine anyT_takeA (i := 8) (v := ?_) (by simp only [qA, qS, qZ]; rfl) (by kernel_rfl) (by kernel_rfl) (by kernel_rfl) (by kernel_rfl) (fun _ _ _ h => h) (Or.inl ⟨by rfl, ?_⟩) (HAX.out _ hb0) (Or.inr (by rw [(blk (HBO.out _ hb0)).1 0]; rfl)) ?_
  rotate_left 1
  ·intro w hSw; (try dsimp only at hSw); go_simp; (first | done | with_reducible rfl)
  try simp only [Act.put, qI, qX, qY]
  refine anyT_takeA (i := 9) (v := ?_) (by simp only [qA, qS, qZ]; rfl) (by kernel_rfl) (by kernel_rfl) (by kernel_rfl) (by kernel_rfl) (fun _ _ _ h => h) (Or.inl ⟨by rfl, ?_⟩) (HAX.out _ hb0) (Or.inr (by rw [(blk (HBO.out _ hb0)).1 0]; rfl)) ?_
  rotate_left 1
  ·intro w hSw; (try dsimp only at hSw); go_simp; (first | done | with_reducible rfl)
  try simp only [Act.put, qI, qX, qY]
  refine anyT_take (i := 0) (v := ?_) (by simp only [qA, qZ]; rfl) (by kernel_rfl) (by kernel_rfl) (by kernel_rfl) (by kernel_rfl) (fun _ _ _ h => h) (Or.inl ⟨by rfl, ?_⟩) ⟨HAX.out _ hb0, by rw [(blk (HBO.out _ hb0)).1 0]; rfl⟩ ?_
  rotate_left 1
  ·intro w hSw; (try dsimp only at hSw); go_simp; (first | done | with_reducible rfl)
  try simp only [Act.put, qI, qX, qY]
  refine anyT_ready (rs := [10]) (by kernel_rfl) (by simp) ?_
  refine AllReadyT.cons (by simp only [qA, qS, qZ]; rfl) (fun K hK => ?_) AllReadyT.nil
  go_simp
  refine (HS.out _ hb0).mono ?_
  rintro e x1 ⟨sa1, sc1, rfl, hk1, hst1⟩
  have HK1 := Lib.hid hk1
  clear hk1
  have hb1 : Below W.heap.size W x1 := below_from hb0 hst1
  refine hK.out _ _ (HAX.out _ hb1) (Or.inr (by rw [(blk (HBO.out _ hb1)).1 0]; rfl)) ?_
  clear hK K
  try simp only [Act.put, qI, qX, qY]
  refine anyT_ready (rs := [11]) (by kernel_rfl) (by simp) ?_
  refine AllReadyT.cons (by simp only [qA, qS, qZ]; rfl) (fun K hK => ?_) AllReadyT.nil
  go_simp
  refine (HWr.out _ _ _ _ HK1.out).mono ?_
  rintro e x2 ⟨sa2, sc2, rfl, hk2, hst2⟩
  have HK2 := Lib.hid hk2
  clear hk2
  have hb2 : Below W.heap.size W x2 := below_from hb1 hst2
  refine hK.out _ _ (HAX.out _ hb2) (Or.inr (by rw [(blk (HBO.out _ hb2)).1 0]; rfl)) ?_
  clear hK K
  try simp only [Act.put, qI, qX, qY]
  refine anyT_ready (rs := [12]) (by kernel_rfl) (by simp) ?_
  refine AllReadyT.cons (by simp only [qA, qS, qZ]; rfl) (fun K hK => ?_) AllReadyT.nil
  have hbs3 := hb2.size
  have HRX3 := HRW.out _ hb2
  have HRY3 := HRW.out _ hb1
  have hsz3 : w6.heap.size ≤ x2.heap.size := Nat.le_trans HIN.out.2 hb2.size
  have hsy3 : w6.heap.size ≤ x1.heap.size := Nat.le_trans HIN.out.2 hb1.size
  obtain ⟨news3, hsrc3, hnews3⟩ := SliceR.src (P := Tryz.prog) (st := 33) rowNod (eltNod 21).pos (eltNod 21).ones HK2.out
  (refine step_append_X (by rfl) _ _ 33 33 (by rfl) rowNod (eltNod 21) w6.heap.size (.slice sv xs.length sc) _ (xs := xs) (ys := G) (news := news3) (by rfl) (by rfl) HRX3 hsz3 hsrc3 (news_apart (rdNod_stable _ _) HRY3 hsy3 hnews3) hxl ?_)
  intro va3 y3 hra3 hba3 hga3 _
  obtain ⟨wa3, wn3, wc3, hwe3⟩ : ∃ a n c, va3 = .slice a n c := by obtain ⟨a, c, e⟩ := hra3.slice; exact ⟨a, _, c, e⟩
  subst hwe3
  have HRA3 := Lib.hid hra3
  have HGA3 := Lib.hid hga3
  clear hra3 hga3 hsrc3 hnews3
  have hob3 : y3.heap[(w.heap.size + 1)]? = some (.cells #[.slice sv xs.length sc] 33) := (hba3.block _ (by have := hZB; have := hbs3; omega)).trans (HBO.out _ hb2)
  obtain ⟨qo3, fo3⟩ := blk hob3
  have ha3 := HAY.out _ hb2 y3 (HAX.out _ hb2) hba3
  refine hK.out _ _ (ha3) (Or.inr (by rw [qo3 0]; rfl)) ?_
  clear hK K
  try simp only [Act.put, qI, qX, qY]
  refine anyT_ready (rs := [13]) (by kernel_rfl) (by simp) ?_
  refine AllReadyT.cons (by simp only [qA, qS, qZ]; rfl) (fun K hK => ?_) AllReadyT.nil
  go_simp
  refine hK.out _ _ (⟨(setCell_block hbo).trans ha3.1, (setCell_block hbo2).trans ha3.2⟩) (Or.inl (by kernel_rfl)) ?_
  clear hK K
  try simp only [Act.put, qI, qX, qY]
  refine anyT_done (by kernel_rfl) ?_ _
  refine hR.out _ _ ?_
  have hfin := put_row (F := (fun p : List Cel => wrapO (lvBit 0 (p.headD default)) (gr (bitsK 3) p))) HIN.out.1 HIN.out.2 hB1 hB2 hB3 hwZ hb2 HRA3.out hba3 HGA3.out HRX3 HNE.out HGN.out hob3 HT.out
  gi_wp2_with fail
  exact ⟨hfin.1 _, hfin.2⟩
 case done =>
  rintro D ys W hD hys ⟨v9, t0, hR, hne, hb, hz⟩ hK
  have e : (ys.flatMap fun y : PartX l => (fun p : List Cel => wrapO (lvBit 0 (p.headD default)) (gr (bitsK 3) p)) (cutP l y.1)) = gr (bitsK (3 + 1)) l := by
   rw [gr_bit 0 3 l rfl, ← hys, List.flatMap_map]
  rw [e] at hR
  have hrow := RwX.row (rdNod_stable _ _) ((rowx_own D w6.heap.size 21 v9 (fun _ : Unit => gr (bitsK (3 + 1)) l)).putObj (s := ()) (.deferred none) hR (Nat.le_refl _) hK rfl)
  obtain ⟨s0, s0f⟩ := blk t0
  obtain ⟨va9, c9, rfl⟩ := hR.slice
  have HROW := Lib.hid hrow
  have HB9 := Lib.hid hb
  have HK9 := Lib.hid hK
  clear hR hb hK hne hrow e
  generalize (gr (bitsK (3 + 1)) l).length = n9 at *
  gi_wp2_with fail
  refine ⟨by simp, .inl ⟨_, _, rfl, run_takeDeferred HK9.out, ?_⟩⟩
  refine ⟨.slice va9 n9 c9, by simp [results, Tryz.results86, go_sem], ?_⟩
  refine ⟨_, rfl, SliceR.stable (rdNod_stable _ _) HROW.out (Keeps.refl _ _) (fun b h _ => Nat.le_trans (Nat.le_trans hww hwZ) h), ?_⟩
  exact HBW.out.trans ((HB9.out.trans (belowK_b (w := w1) (Nat.le_refl _) W D _ _ (by omega) HK9.out rfl rfl)).mono hww)
theorem styled_any (v : Value) (l : List Cel) (w w0 : World) (S : Nat → Prop) (hv : CelsR false w0 S v l) (h0 : Below w0.heap.size w0 w) (hlen : l.length ≤ 6000) :
  Calls Tryz.prog 86 #[v, .int .i64 1] w fun e w' => ∃ v', e = .returned v' ∧ NodsR true 21 w' (fun b => w.heap.size ≤ b) v' (gr (bitsK 4) l) ∧ Below w.heap.size w w' :=
 styled_1 (styled_2 (styled_4 (styled_8 styled_16))) v l w w0 S hv h0 hlen
theorem row_any (v : Value) (l : List Cel) (w w0 : World) (S : Nat → Prop) (hv : CelsR false w0 S v l) (h0 : Below w0.heap.size w0 w) (hlen : l.length ≤ 6000) :
  Calls Tryz.prog 72 #[v] w fun e w' => ∃ v', e = .returned v' ∧ NodsR true 26 w' (fun b => w.heap.size ≤ b) v' (gr rowK l) ∧ Below w.heap.size w w' := row_of styled_any v l w w0 S hv h0 hlen
end Go.Proofs.YteognfhemmogpaaGreatDoor
