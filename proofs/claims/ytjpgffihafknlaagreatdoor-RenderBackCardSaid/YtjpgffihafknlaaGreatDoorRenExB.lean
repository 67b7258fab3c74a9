/- The walk of render.nodes. -/
import Derived.Test.YtjpgffihafknlaaGreatDoorTagTabB
import Derived.Test.YtjpgffihafknlaaGreatDoorRenAlikeLB
import Derived.Test.YtjpgffihafknlaaGreatDoorRenRepB
import Derived.Test.YtjpgffihafknlaaGreatDoorNodPlainB
set_option linter.unusedVariables false
set_option linter.unusedSimpArgs false
namespace Go.Proofs.YtjpgffihafknlaaGreatDoor
open Go.RowKit
open Go.Proofs.Qw
attribute [local go_sem] Oper.semAt_some
def toX {α : Type} {r : α → α → Bool} {d : List α} (x : PartY r d) : PartX d := ⟨x.1, x.2.1⟩
theorem map_snoc {α β : Type} (f : α → β) (l : List α) (x : α) : (l ++ [x]).map f = l.map f ++ [f x] := by simp
def LinFor (lv n : Nat) (l : Lin) : Prop := 0 ≤ l.kind ∧ l.kind ≤ 3 ∧ l.cells.length ≤ 6000 ∧ l.lists.length ≤ 1000 ∧ (wayL l).length < lv + n ∧ lv ≤ (wayL l).length
def FN (lv n : Nat) (p : List Lin) : List Nod := if stepL lv (p.headD default) ≠ 0 then [Nod.mk (stepL lv (p.headD default)) [] [] (hostL (lineN (gr rowK)) n (lv + 1) p)] else [lineN (gr rowK) (p.headD default)]
def NodesAt (n : Nat) : Prop := ∀ (lv : Nat) (v : Value) (d : List Lin) (w w0 : World) (S : Nat → Prop), LinsR w0 S v d → Below w0.heap.size w0 w → d ≠ [] → d.length ≤ 1000 → (∀ l ∈ d, LinFor lv n l) → lv ≤ 1010 →
  Calls Tryz.prog 59 #[v, .int .i64 lv] w fun e w' => ∃ v', e = .returned v' ∧ NodsR true (27 + n) w' (fun b => w.heap.size ≤ b) v' (hostL (lineN (gr rowK)) n lv d) ∧ Below w.heap.size w w'
theorem part_lins {w : World} {S : Nat → Prop} {va : Option Addr} {vc : Nat} {d : List Lin} (hv : LinsR w S (.slice va d.length vc) d) (x : PartX d) : LinsR w S (partV va vc 4 x.1) (cutP d x.1) := by
 obtain ⟨⟨i, j⟩, h1, h2⟩ := x
 obtain ⟨_, h3, _⟩ := hv.len
 exact hv.part (i := i) (j := j) (m := vc) (Nat.le_of_lt h1) h2 (Nat.le_trans h2 h3) (Nat.le_refl _)
set_option maxRecDepth 200000 in
set_option maxHeartbeats 16000000 in
theorem nodes_step (n : Nat) (ih : NodesAt n) : NodesAt (n + 1) := by
 intro lv v d w w0 S hv h0 hdne hdl hok hlv
 have hw := SliceR.below (rdLin_stable _) hv h0
 obtain ⟨va, vc, rfl⟩ := hv.slice
 have HV := Lib.hid hw
 have HI := Lib.hid ih
 have HOK := Lib.hid hok
 clear hv hw ih hok hdne
 refine (callsIn_wide (n := 6)).1 ?_
 refine callsIn_of_wp_marks Tryz.func59 rfl trivial ?_ rfl
 simp only [Tryz.ntmps59, List.size_toArray, List.length_cons, List.length_nil, Nat.reduceAdd, Nat.reduceSub, Array.replicate_succ, Array.replicate_zero, List.push_toArray, List.append_toArray, List.nil_append, List.cons_append]
 have hwf : ∀ f, Fence.wide.fn f := fun _ => trivial
 have hwd : Fence.wide.depth = none := rfl
 gi_wp2_with (gi_at_call 90; refine (callsIn_wide.2 (partsL_any _ _ _ _ _ _)).mono ?_; rintro e w5 ⟨rfl, rfl⟩)
 obtain ⟨w1, hw1⟩ : ∃ w1, w.alloc (.cells #[.int .i64 lv] 3) = w1 := ⟨_, rfl⟩
 rw [hw1]
 obtain ⟨w6, hw6⟩ : ∃ w6, ((w1.alloc (.cells #[.slice none 0 0] 23)).alloc (.cells #[.slice va d.length vc] 29)).alloc (.cells #[.func (.func 88) #[] #[.pointer (some ⟨w.heap.size, 0, none⟩)]] 81) = w6 := ⟨_, rfl⟩
 rw [hw6]
 have hz1 : w1.heap.size = w.heap.size + 1 := by rw [← hw1]; simp
 have HBW : Hid (Below w.heap.size w w1) := Lib.hid (hw1 ▸ (Below.refl _ _).alloc (Nat.le_refl _) _)
 have HBB : Hid (w1.heap[w.heap.size]? = some (.cells #[.int .i64 lv] 3)) := Lib.hid (hw1 ▸ heap_new _ _ rfl)
 have hb6 : Below w1.heap.size w1 w6 := hw6 ▸ (((Below.refl _ _).alloc (Nat.le_refl _) _).alloc (by simp) _).alloc (by simp; omega) _
 have hz6 : w6.heap.size = w1.heap.size + 3 := by rw [← hw6]; simp
 have m0 : w6.heap[w.heap.size + 1]? = some (.cells #[.slice none 0 0] 23) := hw6 ▸ heap_old _ _ (heap_old _ _ (heap_new _ _ (by omega)))
 have n0 : w6.heap[w.heap.size + 1 + 1]? = some (.cells #[.slice va d.length vc] 29) := hw6 ▸ heap_old _ _ (heap_new _ _ (by simp; omega))
 have n1 : w6.heap[w.heap.size + 1 + 1 + 1]? = some (.cells #[.func (.func 88) #[] #[.pointer (some ⟨w.heap.size, 0, none⟩)]] 81) := hw6 ▸ heap_new _ _ (by simp; omega)
 have hPL : PL (d := d) (27 + (n + 1)) (FN lv n) w1 (w.heap.size + 1) w6.heap.size (([] : List (PartY (stepR lv) d)).map toX) w6 := ⟨_, m0, RwX.nil _ _ _ _ _, .inl rfl, hb6, Nat.le_refl _⟩
 have N0 := Lib.hid (And.intro n0 n1)
 have hZB : w.heap.size + 1 < w6.heap.size := by omega
 have HZ6 := Lib.hid (And.intro hz6 hz1)
 have hB1 : w1.heap.size ≤ w.heap.size + 1 := by omega
 have hB2 : w.heap.size + 1 < w.heap.size + 1 + 1 := Nat.lt_succ_self _
 have hB3 := hZB
 have hwZ := hb6.size
 have hww := HBW.out.size
 clear hw6 m0 n0 n1 hz6 hw1 hz1
 refine rangeFunc_slotB rfl (by omega) (gf := 118) (lb := #[.pointer (some ⟨w.heap.size + 1 + 1, 0, none⟩), .pointer (some ⟨w.heap.size + 1 + 1 + 1, 0, none⟩)]) rfl trivial (enters_of Tryz.func118 (by kernel_rfl) rfl)
  (encs := partEncY (r := stepR lv) (d := d) va vc 4) (n₀ := w1.heap.size) (base := w.heap.size + 1 + 1) (top := w6.heap.size) (S := fun ys => ys.map (fun y => cutP d y.1) = partsBy (stepR lv) d) (Sp := fun _ => True) (N := d.length) (w0 := w6) ?seq hb6.size (Below.refl _ _) (fun _ => rfl)
  (fun pre W => PL (27 + (n + 1)) (FN lv n) w1 (w.heap.size + 1) w6.heap.size (pre.map toX) W) (fun s X Y row hs hg hr => pl_own hb6.size (s.map toX) X Y row hs hg hr) hPL ?act ?assign ?body ?done
 case seq =>
  intro l' J Jx W hW hJ _ hY h0
  exact parts1_lines 5 l' (w.heap.size + 1 + 1) (w.heap.size + 1 + 1 + 1) (w.heap.size + 1 + 1) w6.heap.size w.heap.size va vc d (stepR lv) S J Jx w1 W (HV.out.below (rdLin_stable _) HBW.out) (hb6.trans (hW.mono hb6.size)) (fun X hX x y la lc ca cc la2 lc2 ca2 cc2 h1 h2 hx hy => al_lines x y la lc ca cc la2 lc2 ca2 cc2 w.heap.size lv X S h1 h2 (heap_below hX HBB.out) (by have := (HOK.out x hx).2.2.2.1; omega) (by have := (HOK.out y hy).2.2.2.1; omega)) ⟨by omega, by omega⟩ (by have := HZ6.out; omega) (heap_below hW N0.out.1) (heap_below hW N0.out.2) (by omega) hJ hY h0
 case assign =>
  intro l' pre x W K hI hK
  rw [show partEncY va vc 4 x = #[partV va vc 4 x.1] from rfl]
  gi_wp2
  exact hK
 case body =>
  intro l' pre x W hI hlt
  obtain ⟨v0, hD, hRW, hne, hb, hzW⟩ := hI
  have hpr := part_lins HV.out (toX x)
  have hpn := cut_ne (toX x)
  have hpz := cut_len (toX x)
  have hcr := x.2.2
  have hsub : ∀ l ∈ cutP d x.1, l ∈ d := fun l hl => List.mem_of_mem_drop (List.mem_of_mem_take hl)
  obtain ⟨P, hP⟩ : ∃ P, cutP d x.1 = P := ⟨_, rfl⟩
  have hP2 : cutP d (toX x).1 = P := hP
  have HT : Hid ((pre.map toX ++ [toX x]).flatMap (fun y => (FN lv n) (cutP d y.1)) = (pre.map toX).flatMap (fun y => (FN lv n) (cutP d y.1)) ++ (FN lv n) P) := Lib.hid (by rw [List.flatMap_append, ← hP]; simp [toX])
  rw [hP2] at hpr hpn hpz
  rw [hP] at hcr hsub
  obtain ⟨pa, pc, hpe, hpl, hpm, hpx⟩ := lins_shape hpr
  have hpe : partV va vc 4 x.1 = .slice pa P.length pc := hpe
  rw [hpe]
  have hpr : LinsR w S (.slice pa P.length pc) P := by have h := hpr; rw [show partV va vc 4 (toX x).1 = .slice pa P.length pc from hpe] at h; exact h
  obtain ⟨c, P', rfl⟩ : ∃ c P', P = c :: P' := by cases P with | nil => exact absurd rfl hpn | cons c P' => exact ⟨c, P', rfl⟩
  obtain ⟨bb, oo, la, lc, ca, cc, e, hAt⟩ := hpx 0 c rfl
  subst e
  simp only [Nat.zero_mul, Nat.add_zero] at hAt
  have hcr := hcr c P' rfl
  have hokc := HOK.out c (hsub c (by simp))
  have HAT := Lib.hid hAt
  have hbz := hAt.lt
  obtain ⟨xs, hxs⟩ : ∃ xs, (pre.map toX).flatMap (fun y : PartX d => (FN lv n) (cutP d y.1)) = xs := ⟨_, rfl⟩
  have hxl0 : xs.length ≤ (pre.map (toX (r := stepR lv) (d := d))).length * 1 := by
   rw [← hxs]
   exact flat_le_all _ 1 _ (fun y => by unfold FN; split <;> simp)
  rw [List.length_map] at hxl0
  have hxl : xs.length + 1 ≤ 100000000 := by omega
  rw [hxs] at hRW hne HT
  have HRB := Lib.hid (rowx_block hRW hne)
  obtain ⟨sv, sc, hv0⟩ := hRW.slice
  subst hv0
  have HRW : Hid (∀ X, Below W.heap.size W X → RwX 25 4 (rdNod true (27 + (n + 1))) X w6.heap.size (.slice sv xs.length sc) xs) := Lib.hid fun X hX => RwX.below (rdNod_stable _ _) hRW (.all (by exact ⟨hX.os, hX.tape, hX.output, hX.size, fun b hz => hX.block b hz⟩))
  have HBO : Hid (∀ X, Below W.heap.size W X → X.heap[w.heap.size + 1]? = some (.cells #[.slice sv xs.length sc] 23)) := Lib.hid fun X hX => heap_below hX hD
  have HNE := Lib.hid hne
  have HIN := Lib.hid (And.intro hb hzW)
  have HPR := Lib.hid hpr
  obtain ⟨q0, g0⟩ := blk hD
  have i0 : (0 : Int) < (((c :: P').length : Nat) : Int) := by simp only [List.length_cons]; omega
  have hb0 : Below W.heap.size W W.drew := (Below.refl _ _).drew
  have HBX : Hid (∀ X, Below W.heap.size W X → Below w.heap.size w X) := Lib.hid fun X hX => HBW.out.trans ((hb.trans (hX.mono hb.size)).mono hww)
  have HAX : Hid (∀ X, Below W.heap.size W X → X.cell? ⟨bb, oo, none⟩ = some (.int .i64 c.quote) ∧ X.cell? ⟨bb, oo + 1, none⟩ = some (.slice la c.lists.length lc) ∧ X.cell? ⟨bb, oo + 2, none⟩ = some (.int .i64 c.kind) ∧ X.cell? ⟨bb, oo + 3, none⟩ = some (.slice ca c.cells.length cc) ∧ X.cell? ⟨w.heap.size, 0, none⟩ = some (.int .i64 lv)) := Lib.hid fun X hX => by
   obtain ⟨_, c0, c1, c2, c3, _, _⟩ := HAT.out.below (HBX.out X hX)
   exact ⟨c0, c1, c2, c3, by rw [(blk (heap_below (hb.trans (hX.mono hb.size)) HBB.out)).1 0]; rfl⟩
  have HAY : Hid (∀ X, Below W.heap.size W X → ∀ Y, (X.cell? ⟨bb, oo, none⟩ = some (.int .i64 c.quote) ∧ X.cell? ⟨bb, oo + 1, none⟩ = some (.slice la c.lists.length lc) ∧ X.cell? ⟨bb, oo + 2, none⟩ = some (.int .i64 c.kind) ∧ X.cell? ⟨bb, oo + 3, none⟩ = some (.slice ca c.cells.length cc) ∧ X.cell? ⟨w.heap.size, 0, none⟩ = some (.int .i64 lv)) → Below w6.heap.size X Y → (Y.cell? ⟨bb, oo, none⟩ = some (.int .i64 c.quote) ∧ Y.cell? ⟨bb, oo + 1, none⟩ = some (.slice la c.lists.length lc) ∧ Y.cell? ⟨bb, oo + 2, none⟩ = some (.int .i64 c.kind) ∧ Y.cell? ⟨bb, oo + 3, none⟩ = some (.slice ca c.cells.length cc) ∧ Y.cell? ⟨w.heap.size, 0, none⟩ = some (.int .i64 lv))) := Lib.hid fun X hX Y h hY =>
   have l1 : bb < w6.heap.size := by omega
   ⟨(hY.cell (p := ⟨bb, oo, none⟩) l1).trans h.1, (hY.cell (p := ⟨bb, oo + 1, none⟩) l1).trans h.2.1, (hY.cell (p := ⟨bb, oo + 2, none⟩) l1).trans h.2.2.1, (hY.cell (p := ⟨bb, oo + 3, none⟩) l1).trans h.2.2.2.1, (hY.cell (p := ⟨w.heap.size, 0, none⟩) (by show w.heap.size < w6.heap.size; omega)).trans h.2.2.2.2⟩
  have HAS : Hid (∀ (X : World) (B o : Nat) (v : Value), (B ≠ bb ∧ B ≠ w.heap.size) → (X.cell? ⟨bb, oo, none⟩ = some (.int .i64 c.quote) ∧ X.cell? ⟨bb, oo + 1, none⟩ = some (.slice la c.lists.length lc) ∧ X.cell? ⟨bb, oo + 2, none⟩ = some (.int .i64 c.kind) ∧ X.cell? ⟨bb, oo + 3, none⟩ = some (.slice ca c.cells.length cc) ∧ X.cell? ⟨w.heap.size, 0, none⟩ = some (.int .i64 lv)) → ((X.setCell ⟨B, o, none⟩ v).cell? ⟨bb, oo, none⟩ = some (.int .i64 c.quote) ∧ (X.setCell ⟨B, o, none⟩ v).cell? ⟨bb, oo + 1, none⟩ = some (.slice la c.lists.length lc) ∧ (X.setCell ⟨B, o, none⟩ v).cell? ⟨bb, oo + 2, none⟩ = some (.int .i64 c.kind) ∧ (X.setCell ⟨B, o, none⟩ v).cell? ⟨bb, oo + 3, none⟩ = some (.slice ca c.cells.length cc) ∧ (X.setCell ⟨B, o, none⟩ v).cell? ⟨w.heap.size, 0, none⟩ = some (.int .i64 lv))) := Lib.hid fun X B o v hB h => ⟨(setCell_block hB.1).trans h.1, (setCell_block hB.1).trans h.2.1, (setCell_block hB.1).trans h.2.2.1, (setCell_block hB.1).trans h.2.2.2.1, (setCell_block hB.2).trans h.2.2.2.2⟩
  have hno : w.heap.size + 1 ≠ bb ∧ w.heap.size + 1 ≠ w.heap.size := ⟨by omega, by omega⟩
  have hbbZ : bb < w6.heap.size := by omega
  have hwwZ : w.heap.size < w6.heap.size := by omega
  have HSt : Hid (∀ X, Below W.heap.size W X → Calls Tryz.prog 89 #[.agg #[.int .i64 c.quote, .slice la c.lists.length lc, .int .i64 c.kind, .slice ca c.cells.length cc], .int .i64 lv] X fun e X' => e = .returned (.int .i64 (stepL lv c)) ∧ Below X.heap.size X X') := Lib.hid fun X hX => renStep_any c _ ca _ cc lv X w S HAT.out.listsR (HBX.out X hX) (by have := hokc.2.2.2.1; omega)
  obtain ⟨z, hz⟩ : ∃ z, stepL lv c = z := ⟨_, rfl⟩
  rw [hz] at HSt
  by_cases hs : stepL lv c = 0
  ·have hs0 : z = 0 := hz.symm.trans hs
   have hq : (z != 0) = false := by simp [hs0]
   replace HT : Hid ((pre.map toX ++ [toX x]).flatMap (fun y => (FN lv n) (cutP d y.1)) = xs ++ [lineN (gr rowK) c]) := Lib.hid (by rw [HT.out]; congr 1; unfold FN; exact if_neg (fun h => h hs))
   have HNd : Hid (∀ X, Below W.heap.size W X → Calls Tryz.prog 91 #[.agg #[.int .i64 c.quote, .slice la c.lists.length lc, .int .i64 c.kind, .slice ca c.cells.length cc]] X fun e X' => ∃ ka kc, e = .returned (.agg #[.int .i64 (lineN (gr rowK) c).tag, .slice none 0 0, .string ⟨#[]⟩, .slice ka (gr rowK c.cells).length kc]) ∧ NodsR true 26 X' (fun b => X.heap.size ≤ b) (.slice ka (gr rowK c.cells).length kc) (gr rowK c.cells) ∧ Below X.heap.size X X') := Lib.hid fun X hX => (node_any c la lc ca cc X w S HAT.out.cellsR (HBX.out X hX) hokc.1 hokc.2.1 hokc.2.2.1).mono fun _ _ ⟨k', h1, h2, h3⟩ => by
    obtain ⟨ka, kc, rfl⟩ := h2.slice
    exact ⟨ka, kc, h1, h2, h3⟩
   clear hs hs0 hz hpr hcr hsub hokc hpx hRW hne hxs hxl0 hAt hP hP2 hpe hb HV HI HOK
   gi_wp2_with fail
   refine wpIn_region_T (fun w' => w'.cell? ⟨bb, oo, none⟩ = some (.int .i64 c.quote) ∧ w'.cell? ⟨bb, oo + 1, none⟩ = some (.slice la c.lists.length lc) ∧ w'.cell? ⟨bb, oo + 2, none⟩ = some (.int .i64 c.kind) ∧ w'.cell? ⟨bb, oo + 3, none⟩ = some (.slice ca c.cells.length cc) ∧ w'.cell? ⟨w.heap.size, 0, none⟩ = some (.int .i64 lv)) (fun w' => w'.cell? ⟨w.heap.size + 1, 0, none⟩ = some (.slice sv xs.length sc)) 99 (by kernel_rfl) (by kernel_rfl) (fun R hR => ?_)
   refine anyT_takeA (i := 0) (v := ?_) (by simp only [qA, qZ]; rfl) (by kernel_rfl) (by kernel_rfl) (by kernel_rfl) (by kernel_rfl) (fun _ _ _ h => h) (Or.inl ⟨by rfl, ?_⟩) (HAX.out _ hb0) (Or.inr (by rw [(blk (HBO.out _ hb0)).1 0]; rfl)) ?_
   rotate_left 1
   ·intro w hSw; (try dsimp only at hSw); go_simp; (first | done | with_reducible rfl)
   try simp only [Act.put, qI, qX, qY]
   refine anyT_takeA (i := 1) (v := ?_) (by simp only [qA, qS, qZ]; rfl) (by kernel_rfl) (by kernel_rfl) (by kernel_rfl) (by kernel_rfl) (fun _ _ _ h => h) (Or.inl ⟨by rfl, ?_⟩) (HAX.out _ hb0) (Or.inr (by rw [(blk (HBO.out _ hb0)).1 0]; rfl)) ?_
   rotate_left 1
   ·intro w hSw; (try dsimp only at hSw); go_simp; (first | done | with_reducible rfl)
   try simp only [Act.put, qI, qX, qY]
   refine anyT_takeA (i := 2) (v := ?_) (by simp only [qA, qS, qZ]; rfl) (by kernel_rfl) (by kernel_rfl) (by kernel_rfl) (by kernel_rfl) (fun _ _ _ h => h) (Or.inl ⟨by rfl, ?_⟩) (HAX.out _ hb0) (Or.inr (by rw [(blk (HBO.out _ hb0)).1 0]; rfl)) ?_
   rotate_left 1
   ·intro w hSw; (try dsimp only at hSw); go_simp; (first | done | with_reducible rfl)
   try simp only [Act.put, qI, qX, qY]
   refine anyT_takeA (i := 3) (v := ?_) (by simp only [qA, qS, qZ]; rfl) (by kernel_rfl) (by kernel_rfl) (by kernel_rfl) (by kernel_rfl) (fun _ _ _ h => h) (Or.inl ⟨by rfl, ?_⟩) (HAX.out _ hb0) (Or.inr (by rw [(blk (HBO.out _ hb0)).1 0]; rfl)) ?_
   rotate_left 1
   ·intro w hSw; (try dsimp only at hSw); go_simp; (first | done | with_reducible rfl)
   try simp only [Act.put, qI, qX, qY]
   refine anyT_ready (rs := [4]) (by kernel_rfl) (by simp) ?_
   refine AllReadyT.cons (by simp only [qA, qS, qZ]; rfl) (fun K hK => ?_) AllReadyT.nil
   go_simp
   refine (HSt.out _ hb0).mono ?_
   rintro e W2 ⟨rfl, hst2⟩
   have hbW2 : Below W.heap.size W W2 := below_from hb0 hst2
   refine hK.out _ _ (HAX.out _ hbW2) (Or.inr (by rw [(blk (HBO.out _ hbW2)).1 0]; rfl)) ?_
   clear hK K
   try simp only [Act.put, qI, qX, qY]
   refine anyT_takeA (i := 5) (v := ?_) (by simp only [qA, qS, qZ]; rfl) (by kernel_rfl) (by kernel_rfl) (by kernel_rfl) (by kernel_rfl) (fun _ _ _ h => h) (Or.inl ⟨by rfl, ?_⟩) (HAX.out _ hbW2) (Or.inr (by rw [(blk (HBO.out _ hbW2)).1 0]; rfl)) ?_
   rotate_left 1
   ·intro w hSw; (try dsimp only at hSw); go_simp; (first | done | with_reducible rfl)
   try simp only [Act.put, qI, qX, qY]
   refine anyT_done (by kernel_rfl) ?_ _
   refine hR.out _ _ ?_
   have hb0 : Below W.heap.size W W2.drew := hbW2.drew
   have hr0 : Below W2.heap.size W2 W2.drew := (Below.refl _ _).drew
   gi_wp2_with fail
   refine wpIn_region_T (fun w' => w'.cell? ⟨bb, oo, none⟩ = some (.int .i64 c.quote) ∧ w'.cell? ⟨bb, oo + 1, none⟩ = some (.slice la c.lists.length lc) ∧ w'.cell? ⟨bb, oo + 2, none⟩ = some (.int .i64 c.kind) ∧ w'.cell? ⟨bb, oo + 3, none⟩ = some (.slice ca c.cells.length cc) ∧ w'.cell? ⟨w.heap.size, 0, none⟩ = some (.int .i64 lv)) (fun w' => w'.cell? ⟨w.heap.size + 1, 0, none⟩ = some (.slice sv xs.length sc)) 10 (by kernel_rfl) (by kernel_rfl) (fun R hR => ?_)
   refine anyT_takeA (i := 1) (v := ?_) (by simp only [qA, qS, qZ]; rfl) (by kernel_rfl) (by kernel_rfl) (by kernel_rfl) (by kernel_rfl) (fun _ _ _ h => h) (Or.inl ⟨by rfl, ?_⟩) (HAX.out _ hb0) (Or.inr (by rw [(blk (HBO.out _ hb0)).1 0]; rfl)) ?_
   rotate_left 1
   ·intro w hSw; (try dsimp only at hSw); go_simp; (first | done | with_reducible rfl)
   try simp only [Act.put, qI, qX, qY]
   refine anyT_takeA (i := 2) (v := ?_) (by simp only [qA, qS, qZ]; rfl) (by kernel_rfl) (by kernel_rfl) (by kernel_rfl) (by kernel_rfl) (fun _ _ _ h => h) (Or.inl ⟨by rfl, ?_⟩) (HAX.out _ hb0) (Or.inr (by rw [(blk (HBO.out _ hb0)).1 0]; rfl)) ?_
   rotate_left 1
   ·intro w hSw; (try dsimp only at hSw); go_simp; (first | done | with_reducible rfl)
   try simp only [Act.put, qI, qX, qY]
   refine anyT_takeA (i := 3) (v := ?_) (by simp only [qA, qS, qZ]; rfl) (by kernel_rfl) (by kernel_rfl) (by kernel_rfl) (by kernel_rfl) (fun _ _ _ h => h) (Or.inl ⟨by rfl, ?_⟩) (HAX.out _ hb0) (Or.inr (by rw [(blk (HBO.out _ hb0)).1 0]; rfl)) ?_
   rotate_left 1
   ·intro w hSw; (try dsimp only at hSw); go_simp; (first | done | with_reducible rfl)
   try simp only [Act.put, qI, qX, qY]
   refine anyT_take (i := 0) (v := ?_) (by simp only [qA, qZ]; rfl) (by kernel_rfl) (by kernel_rfl) (by kernel_rfl) (by kernel_rfl) (fun _ _ _ h => h) (Or.inl ⟨by rfl, ?_⟩) ⟨HAX.out _ hb0, by rw [(blk (HBO.out _ hb0)).1 0]; rfl⟩ ?_
   rotate_left 1
   ·intro w hSw; (try dsimp only at hSw); go_simp; (first | done | with_reducible rfl)
   try simp only [Act.put, qI, qX, qY]
   refine anyT_take (i := 5) (v := ?_) (by simp only [qA, qS, qZ]; rfl) (by kernel_rfl) (by kernel_rfl) (by kernel_rfl) (by kernel_rfl) (fun _ _ _ h => h) (Or.inl ⟨by rfl, ?_⟩) ⟨HAX.out _ hb0, by rw [(blk (HBO.out _ hb0)).1 0]; rfl⟩ ?_
   rotate_left 1
   ·intro w hSw; (try dsimp only at hSw); go_simp; (first | done | with_reducible rfl)
   try simp only [Act.put, qI, qX, qY]
   refine anyT_ready (rs := [4, 6]) (by kernel_rfl) (by simp) ?_
   refine AllReadyT.cons (by simp only [qA, qS, qZ]; rfl) (fun K hK => ?_) ?_
   ·go_simp
    refine (HNd.out _ hb0).mono ?_
    rintro e x1 ⟨sa1, sc1, rfl, hk1, hst1⟩
    have HK1 := Lib.hid hk1
    clear hk1
    have hb1 : Below W.heap.size W x1 := below_from hb0 hst1
    have hr1 : Below W2.heap.size W2 x1 := below_from hr0 hst1
    refine hK.out _ _ (HAX.out _ hb1) (Or.inr (by rw [(blk (HBO.out _ hb1)).1 0]; rfl)) ?_
    clear hK K
    try simp only [Act.put, qI, qX, qY]
    refine anyT_ready (rs := [6]) (by kernel_rfl) (by simp) ?_
    refine AllReadyT.cons (by simp only [qA, qS, qZ]; rfl) (fun K hK => ?_) AllReadyT.nil
    go_simp
    obtain ⟨x2, hx2⟩ : ∃ X, (x1.alloc (.cells #[.int .i64 0, .slice none 0 0, .string ⟨#[]⟩, .slice none 0 0] 25)) = X := ⟨_, rfl⟩
    have hst2 : Below x1.heap.size x1 x2 := hx2 ▸ (Below.refl _ _).alloc (Nat.le_refl _) _
    have hz2 : x2.heap[x1.heap.size]? = some (.cells #[.int .i64 0, .slice none 0 0, .string ⟨#[]⟩, .slice none 0 0] 25) := hx2 ▸ heap_new _ _ rfl
    rw [hx2]
    clear hx2
    have hb2 : Below W.heap.size W x2 := below_from hb1 hst2
    have hr2 : Below W2.heap.size W2 x2 := below_from hr1 hst2
    refine hK.out _ _ (HAX.out _ hb2) (Or.inr (by rw [(blk (HBO.out _ hb2)).1 0]; rfl)) ?_
    clear hK K
    try simp only [Act.put, qI, qX, qY]
    refine anyT_ready (rs := [7]) (by kernel_rfl) (by simp) ?_
    refine AllReadyT.cons (by simp only [qA, qS, qZ]; rfl) (fun K hK => ?_) AllReadyT.nil
    have hbs3 := hb2.size
    have HRX3 := HRW.out _ hb2
    (refine step_append_X (by rfl) _ _ 23 23 (by rfl) rowNod (eltNod (27 + (n + 1))) w6.heap.size (.slice sv xs.length sc) _ (xs := xs) (ys := [zeroN]) (news := [.int .i64 0, .slice none 0 0, .string ⟨#[]⟩, .slice none 0 0]) (by rfl) (by rfl) HRX3 (Nat.le_trans HIN.out.2 hb2.size) (src_node hz2 (oneV_node zeroN _ _ _ _ _ _) 1) (news_apart (rdNod_stable _ _) HRX3 (Nat.le_trans HIN.out.2 hb2.size) zero_news) hxl ?_)
    intro va3 y3 hra3 hba3 hga3 hor3
    obtain ⟨b3, o3, c3, la3, lc3, ka3, kc3, rfl, hbn3, hbl3, hbh3, hbf3, d0, d1, d2, d3, hcm3⟩ := rowx_last hra3
    have hap3 := app_apart hga3 hor3 HRB.out
    have HAP3 := Lib.hid (And.intro hap3 (And.intro hga3 hba3))
    clear hap3 hor3 hga3
    have HRA3 := Lib.hid hra3
    clear hra3
    have hob3 : y3.heap[(w.heap.size + 1)]? = some (.cells #[.slice sv xs.length sc] 23) := (hba3.block _ (by have := hZB; have := hbs3; omega)).trans (HBO.out _ hb2)
    obtain ⟨qo3, fo3⟩ := blk hob3
    have ne3 : ¬ b3 = (w.heap.size + 1) := by have := hZB; omega
    have hnb3 : b3 ≠ bb ∧ b3 ≠ w.heap.size := ⟨by omega, by omega⟩
    have nf3 : ¬ (w.heap.size + 1) = b3 := by have := hZB; omega
    have i33 : (0 : Int) ≤ ((xs.length : Nat) : Int) := Int.natCast_nonneg _
    have i43 : ((xs.length : Nat) : Int) < ((xs.length : Nat) : Int) + 1 := by omega
    refine hK.out _ _ (HAY.out _ hb2 y3 (HAX.out _ hb2) hba3) (Or.inr (by rw [qo3 0]; rfl)) ?_
    clear hK K
    try simp only [Act.put, qI, qX, qY]
    refine anyT_takeA (i := 8) (v := ?_) (by simp only [qA, qS, qZ]; rfl) (by kernel_rfl) (by kernel_rfl) (by kernel_rfl) (by kernel_rfl) (fun _ _ _ h => h) (Or.inl ⟨by rfl, ?_⟩) (HAY.out _ hb2 y3 (HAX.out _ hb2) hba3) (Or.inr (by rw [qo3 0]; rfl)) ?_
    rotate_left 1
    ·intro w hSw; (try dsimp only at hSw); go_simp; (first | done | with_reducible rfl)
    try simp only [Act.put, qI, qX, qY]
    refine anyT_ready (rs := [9, 10]) (by kernel_rfl) (by simp) ?_
    refine AllReadyT.cons (by simp only [qA, qS, qZ]; rfl) (fun K hK => ?_) ?_
    ·go_simp
     refine hK.out _ _ (HAS.out _ _ _ _ hnb3 (HAS.out _ _ _ _ hnb3 (HAS.out _ _ _ _ hnb3 (HAS.out _ _ _ _ hnb3 (HAY.out _ hb2 y3 (HAX.out _ hb2) hba3))))) (Or.inr ((setCell_block ne3).trans ((setCell_block ne3).trans ((setCell_block ne3).trans ((setCell_block ne3).trans (by rw [qo3 0]; rfl)))))) ?_
     clear hK K
     try simp only [Act.put, qI, qX, qY]
     refine anyT_ready (rs := [10]) (by kernel_rfl) (by simp) ?_
     refine AllReadyT.cons (by simp only [qA, qS, qZ]; rfl) (fun K hK => ?_) AllReadyT.nil
     go_simp
     refine hK.out _ _ (HAS.out _ _ _ _ hno (HAS.out _ _ _ _ hnb3 (HAS.out _ _ _ _ hnb3 (HAS.out _ _ _ _ hnb3 (HAS.out _ _ _ _ hnb3 (HAY.out _ hb2 y3 (HAX.out _ hb2) hba3)))))) (Or.inl (by kernel_rfl)) ?_
     clear hK K
     try simp only [Act.put, qI, qX, qY]
     refine anyT_done (by kernel_rfl) ?_ _
     refine hR.out _ _ ?_
     have hnode := node_ready (h := 27 + n) (n := (lineN (gr rowK) c)) (SliceR.nil _ _ _ _ _ _) ((nods_mono' (by omega) HK1.out).stable (rdNod_stable _ _) (Keeps.refl _ _) (fun d h _ => Nat.le_trans hb0.size h)) (below_from (Below.refl _ _) hst2) HAP3.out.1.1 HAP3.out.1.2 HIN.out.2
     have hfin := put_done (F := (FN lv n)) HIN.out.1 HIN.out.2 hB1 hB2 hB3 hwZ hb2 HRA3.out HAP3.out.2.2 HAP3.out.2.1 HRX3 HNE.out hbn3 hnode hob3 HT.out
     rw [← map_snoc] at hfin
     gi_wp2_with fail
     exact ⟨hfin.1 _, hfin.2⟩
    refine AllReadyT.cons (by simp only [qA, qS, qZ]; rfl) (fun K hK => ?_) ?_
    ·go_simp
     refine hK.out _ _ (HAS.out _ _ _ _ hno (HAY.out _ hb2 y3 (HAX.out _ hb2) hba3)) (Or.inl (by kernel_rfl)) ?_
     clear hK K
     try simp only [Act.put, qI, qX, qY]
     refine anyT_ready (rs := [9]) (by kernel_rfl) (by simp) ?_
     refine AllReadyT.cons (by simp only [qA, qS, qZ]; rfl) (fun K hK => ?_) AllReadyT.nil
     go_simp
     refine hK.out _ _ (HAS.out _ _ _ _ hnb3 (HAS.out _ _ _ _ hnb3 (HAS.out _ _ _ _ hnb3 (HAS.out _ _ _ _ hnb3 (HAS.out _ _ _ _ hno (HAY.out _ hb2 y3 (HAX.out _ hb2) hba3)))))) (Or.inl (by kernel_rfl)) ?_
     clear hK K
     try simp only [Act.put, qI, qX, qY]
     refine anyT_done (by kernel_rfl) ?_ _
     refine hR.out _ _ ?_
     have hnode := node_ready (h := 27 + n) (n := (lineN (gr rowK) c)) (SliceR.nil _ _ _ _ _ _) ((nods_mono' (by omega) HK1.out).stable (rdNod_stable _ _) (Keeps.refl _ _) (fun d h _ => Nat.le_trans hb0.size h)) (below_from (Below.refl _ _) hst2) HAP3.out.1.1 HAP3.out.1.2 HIN.out.2
     have hfin := put_done2 (F := (FN lv n)) HIN.out.1 HIN.out.2 hB1 hB2 hB3 hwZ hb2 HRA3.out HAP3.out.2.2 HAP3.out.2.1 HRX3 HNE.out hbn3 hnode hob3 HT.out
     rw [← map_snoc] at hfin
     gi_wp2_with fail
     exact ⟨hfin.1 _, hfin.2⟩
    exact AllReadyT.nil
   refine AllReadyT.cons (by simp only [qA, qS, qZ]; rfl) (fun K hK => ?_) ?_
   ·go_simp
    obtain ⟨x8, hx8⟩ : ∃ X, (W2.alloc (.cells #[.int .i64 0, .slice none 0 0, .string ⟨#[]⟩, .slice none 0 0] 25)).drew = X := ⟨_, rfl⟩
    have hst8 : Below W2.heap.size W2 x8 := hx8 ▸ ((Below.refl _ _).alloc (Nat.le_refl _) _).drew
    have hz8 : x8.heap[W2.heap.size]? = some (.cells #[.int .i64 0, .slice none 0 0, .string ⟨#[]⟩, .slice none 0 0] 25) := hx8 ▸ (show ((W2.alloc (.cells #[.int .i64 0, .slice none 0 0, .string ⟨#[]⟩, .slice none 0 0] 25)).drew).heap[W2.heap.size]? = _ from heap_new _ _ rfl)
    rw [hx8]
    clear hx8
    have hb8 : Below W.heap.size W x8 := below_from hbW2 hst8
    have hr8 : Below W2.heap.size W2 x8 := hst8
    refine hK.out _ _ (HAX.out _ hb8) (Or.inr (by rw [(blk (HBO.out _ hb8)).1 0]; rfl)) ?_
    clear hK K
    try simp only [Act.put, qI, qX, qY]
    refine anyT_ready (rs := [4]) (by kernel_rfl) (by simp) ?_
    refine AllReadyT.cons (by simp only [qA, qS, qZ]; rfl) (fun K hK => ?_) AllReadyT.nil
    go_simp
    refine (HNd.out _ hb8).mono ?_
    rintro e x9 ⟨sa9, sc9, rfl, hk9, hst9⟩
    have HK9 := Lib.hid hk9
    clear hk9
    have hb9 : Below W.heap.size W x9 := below_from hb8 hst9
    have hr9 : Below W2.heap.size W2 x9 := below_from hr8 hst9
    have hz9 := heap_below hst9 hz8
    refine hK.out _ _ (HAX.out _ hb9) (Or.inr (by rw [(blk (HBO.out _ hb9)).1 0]; rfl)) ?_
    clear hK K
    try simp only [Act.put, qI, qX, qY]
    refine anyT_ready (rs := [7]) (by kernel_rfl) (by simp) ?_
    refine AllReadyT.cons (by simp only [qA, qS, qZ]; rfl) (fun K hK => ?_) AllReadyT.nil
    have hbs10 := hb9.size
    have HRX10 := HRW.out _ hb9
    (refine step_append_X (by rfl) _ _ 23 23 (by rfl) rowNod (eltNod (27 + (n + 1))) w6.heap.size (.slice sv xs.length sc) _ (xs := xs) (ys := [zeroN]) (news := [.int .i64 0, .slice none 0 0, .string ⟨#[]⟩, .slice none 0 0]) (by rfl) (by rfl) HRX10 (Nat.le_trans HIN.out.2 hb9.size) (src_node hz9 (oneV_node zeroN _ _ _ _ _ _) 1) (news_apart (rdNod_stable _ _) HRX10 (Nat.le_trans HIN.out.2 hb9.size) zero_news) hxl ?_)
    intro va10 y10 hra10 hba10 hga10 hor10
    obtain ⟨b10, o10, c10, la10, lc10, ka10, kc10, rfl, hbn10, hbl10, hbh10, hbf10, d0, d1, d2, d3, hcm10⟩ := rowx_last hra10
    have hap10 := app_apart hga10 hor10 HRB.out
    have HAP10 := Lib.hid (And.intro hap10 (And.intro hga10 hba10))
    clear hap10 hor10 hga10
    have HRA10 := Lib.hid hra10
    clear hra10
    have hob10 : y10.heap[(w.heap.size + 1)]? = some (.cells #[.slice sv xs.length sc] 23) := (hba10.block _ (by have := hZB; have := hbs10; omega)).trans (HBO.out _ hb9)
    obtain ⟨qo10, fo10⟩ := blk hob10
    have ne10 : ¬ b10 = (w.heap.size + 1) := by have := hZB; omega
    have hnb10 : b10 ≠ bb ∧ b10 ≠ w.heap.size := ⟨by omega, by omega⟩
    have nf10 : ¬ (w.heap.size + 1) = b10 := by have := hZB; omega
    have i310 : (0 : Int) ≤ ((xs.length : Nat) : Int) := Int.natCast_nonneg _
    have i410 : ((xs.length : Nat) : Int) < ((xs.length : Nat) : Int) + 1 := by omega
    refine hK.out _ _ (HAY.out _ hb9 y10 (HAX.out _ hb9) hba10) (Or.inr (by rw [qo10 0]; rfl)) ?_
    clear hK K
    try simp only [Act.put, qI, qX, qY]
    refine anyT_takeA (i := 8) (v := ?_) (by simp only [qA, qS, qZ]; rfl) (by kernel_rfl) (by kernel_rfl) (by kernel_rfl) (by kernel_rfl) (fun _ _ _ h => h) (Or.inl ⟨by rfl, ?_⟩) (HAY.out _ hb9 y10 (HAX.out _ hb9) hba10) (Or.inr (by rw [qo10 0]; rfl)) ?_
    rotate_left 1
    ·intro w hSw; (try dsimp only at hSw); go_simp; (first | done | with_reducible rfl)
    try simp only [Act.put, qI, qX, qY]
    refine anyT_ready (rs := [9, 10]) (by kernel_rfl) (by simp) ?_
    refine AllReadyT.cons (by simp only [qA, qS, qZ]; rfl) (fun K hK => ?_) ?_
    ·go_simp
     refine hK.out _ _ (HAS.out _ _ _ _ hnb10 (HAS.out _ _ _ _ hnb10 (HAS.out _ _ _ _ hnb10 (HAS.out _ _ _ _ hnb10 (HAY.out _ hb9 y10 (HAX.out _ hb9) hba10))))) (Or.inr ((setCell_block ne10).trans ((setCell_block ne10).trans ((setCell_block ne10).trans ((setCell_block ne10).trans (by rw [qo10 0]; rfl)))))) ?_
     clear hK K
     try simp only [Act.put, qI, qX, qY]
     refine anyT_ready (rs := [10]) (by kernel_rfl) (by simp) ?_
     refine AllReadyT.cons (by simp only [qA, qS, qZ]; rfl) (fun K hK => ?_) AllReadyT.nil
     go_simp
     refine hK.out _ _ (HAS.out _ _ _ _ hno (HAS.out _ _ _ _ hnb10 (HAS.out _ _ _ _ hnb10 (HAS.out _ _ _ _ hnb10 (HAS.out _ _ _ _ hnb10 (HAY.out _ hb9 y10 (HAX.out _ hb9) hba10)))))) (Or.inl (by kernel_rfl)) ?_
     clear hK K
     try simp only [Act.put, qI, qX, qY]
     refine anyT_done (by kernel_rfl) ?_ _
     refine hR.out _ _ ?_
     have hnode := node_ready (h := 27 + n) (n := (lineN (gr rowK) c)) (SliceR.nil _ _ _ _ _ _) ((nods_mono' (by omega) HK9.out).stable (rdNod_stable _ _) (Keeps.refl _ _) (fun d h _ => Nat.le_trans hb8.size h)) (Below.refl _ _) HAP10.out.1.1 HAP10.out.1.2 HIN.out.2
     have hfin := put_done (F := (FN lv n)) HIN.out.1 HIN.out.2 hB1 hB2 hB3 hwZ hb9 HRA10.out HAP10.out.2.2 HAP10.out.2.1 HRX10 HNE.out hbn10 hnode hob10 HT.out
     rw [← map_snoc] at hfin
     gi_wp2_with fail
     exact ⟨hfin.1 _, hfin.2⟩
    refine AllReadyT.cons (by simp only [qA, qS, qZ]; rfl) (fun K hK => ?_) ?_
    ·go_simp
     refine hK.out _ _ (HAS.out _ _ _ _ hno (HAY.out _ hb9 y10 (HAX.out _ hb9) hba10)) (Or.inl (by kernel_rfl)) ?_
     clear hK K
     try simp only [Act.put, qI, qX, qY]
     refine anyT_ready (rs := [9]) (by kernel_rfl) (by simp) ?_
     refine AllReadyT.cons (by simp only [qA, qS, qZ]; rfl) (fun K hK => ?_) AllReadyT.nil
     go_simp
     refine hK.out _ _ (HAS.out _ _ _ _ hnb10 (HAS.out _ _ _ _ hnb10 (HAS.out _ _ _ _ hnb10 (HAS.out _ _ _ _ hnb10 (HAS.out _ _ _ _ hno (HAY.out _ hb9 y10 (HAX.out _ hb9) hba10)))))) (Or.inl (by kernel_rfl)) ?_
     clear hK K
     try simp only [Act.put, qI, qX, qY]
     refine anyT_done (by kernel_rfl) ?_ _
     refine hR.out _ _ ?_
     have hnode := node_ready (h := 27 + n) (n := (lineN (gr rowK) c)) (SliceR.nil _ _ _ _ _ _) ((nods_mono' (by omega) HK9.out).stable (rdNod_stable _ _) (Keeps.refl _ _) (fun d h _ => Nat.le_trans hb8.size h)) (Below.refl _ _) HAP10.out.1.1 HAP10.out.1.2 HIN.out.2
     have hfin := put_done2 (F := (FN lv n)) HIN.out.1 HIN.out.2 hB1 hB2 hB3 hwZ hb9 HRA10.out HAP10.out.2.2 HAP10.out.2.1 HRX10 HNE.out hbn10 hnode hob10 HT.out
     rw [← map_snoc] at hfin
     gi_wp2_with fail
     exact ⟨hfin.1 _, hfin.2⟩
    exact AllReadyT.nil
   exact AllReadyT.nil
  ·have hq : (z != 0) = true := by rw [← hz]; simp [hs]
   have hall : ∀ y ∈ c :: P', stepL lv y ≠ 0 := fun y hy => by
    rcases List.mem_cons.1 hy with rfl | hy
    ·exact hs
    ·have := hcr y hy
     unfold stepR at this
     simp only [Bool.and_eq_true, decide_eq_true_eq] at this
     rw [← this.2]
     exact hs
   have hfor : ∀ y ∈ c :: P', LinFor (lv + 1) n y := fun y hy => by
    obtain ⟨g1, g2, g3, g4, g5, g6⟩ := HOK.out y (hsub y hy)
    have := (stepL_some (hall y hy)).1
    exact ⟨g1, g2, g3, g4, by omega, by omega⟩
   replace HT : Hid ((pre.map toX ++ [toX x]).flatMap (fun y => (FN lv n) (cutP d y.1)) = xs ++ [.mk z [] [] (hostL (lineN (gr rowK)) n (lv + 1) (c :: P'))]) := Lib.hid (by rw [HT.out, ← hz]; congr 1; unfold FN; exact if_pos hs)
   have hhl := host_len (lineN (gr rowK)) n (lv + 1) (c :: P')
   have hhf := host_fit n (lv + 1) (c :: P') (by omega) (fun y hy => by have := (hfor y hy).2.2.1; omega)
   have hlv1 : lv + 1 ≤ 1010 := by
    have h1 := (stepL_some hs).1
    have h2 := way_most c
    have h3 := hokc.2.2.2.1
    omega
   have hlw : IntKind.i64.wrap ((lv : Int) + 1) = (lv : Int) + 1 := by rw [IntKind.wrap_i64]; omega
   have HNo : Hid (∀ X, Below W.heap.size W X → Calls Tryz.prog 59 #[.slice (some ⟨bb, oo, none⟩) (P'.length + 1) pc, .int .i64 ((lv : Int) + 1)] X fun e X' => ∃ ka kc, e = .returned (.slice ka (hostL (lineN (gr rowK)) n (lv + 1) (c :: P')).length kc) ∧ NodsR true (27 + n) X' (fun b => X.heap.size ≤ b) (.slice ka (hostL (lineN (gr rowK)) n (lv + 1) (c :: P')).length kc) (hostL (lineN (gr rowK)) n (lv + 1) (c :: P')) ∧ Below X.heap.size X X') := Lib.hid fun X hX => (HI.out (lv + 1) _ (c :: P') X w S HPR.out (HBX.out X hX) (by simp) (by omega) hfor hlv1).mono fun _ _ ⟨k', h1, h2, h3⟩ => by
    obtain ⟨ka, kc, rfl⟩ := h2.slice
    exact ⟨ka, kc, h1, h2, h3⟩
   have HE : Hid (∀ X Y X0 ka kc, Below Y.heap.size Y X → NodsR true (27 + n) Y (fun b => X0 ≤ b) (.slice ka (hostL (lineN (gr rowK)) n (lv + 1) (c :: P')).length kc) (hostL (lineN (gr rowK)) n (lv + 1) (c :: P')) → Calls Tryz.prog 58 #[.int .i64 z, .slice ka (hostL (lineN (gr rowK)) n (lv + 1) (c :: P')).length kc] X fun e X' => ∃ ka kc, e = .returned (.agg #[.int .i64 z, .slice none 0 0, .string ⟨#[]⟩, .slice ka (hostL (lineN (gr rowK)) n (lv + 1) (c :: P')).length kc]) ∧ NodsR true (27 + n) X' (fun b => X.heap.size ≤ b) (.slice ka (hostL (lineN (gr rowK)) n (lv + 1) (c :: P')).length kc) (hostL (lineN (gr rowK)) n (lv + 1) (c :: P')) ∧ Below X.heap.size X X') := Lib.hid fun X Y X0 ka kc hyx hk => (elem_any (27 + n) z _ _ true X Y _ hk hyx (by omega) hhf).mono fun _ _ ⟨k', h1, h2, h3⟩ => by
    obtain ⟨ka, kc, rfl⟩ := h2.slice
    exact ⟨ka, kc, h1, h2, h3⟩
   clear hs hz hpr hcr hsub hokc hpx hRW hne hxs hxl0 hAt hP hP2 hpe hb HV hall hfor hlv1 HI HOK
   generalize hostL (lineN (gr rowK)) n (lv + 1) (c :: P') = G at *
   gi_wp2_with fail
   refine wpIn_region_T (fun w' => w'.cell? ⟨bb, oo, none⟩ = some (.int .i64 c.quote) ∧ w'.cell? ⟨bb, oo + 1, none⟩ = some (.slice la c.lists.length lc) ∧ w'.cell? ⟨bb, oo + 2, none⟩ = some (.int .i64 c.kind) ∧ w'.cell? ⟨bb, oo + 3, none⟩ = some (.slice ca c.cells.length cc) ∧ w'.cell? ⟨w.heap.size, 0, none⟩ = some (.int .i64 lv)) (fun w' => w'.cell? ⟨w.heap.size + 1, 0, none⟩ = some (.slice sv xs.length sc)) 99 (by kernel_rfl) (by kernel_rfl) (fun R hR => ?_)
   refine anyT_takeA (i := 0) (v := ?_) (by simp only [qA, qZ]; rfl) (by kernel_rfl) (by kernel_rfl) (by kernel_rfl) (by kernel_rfl) (fun _ _ _ h => h) (Or.inl ⟨by rfl, ?_⟩) (HAX.out _ hb0) (Or.inr (by rw [(blk (HBO.out _ hb0)).1 0]; rfl)) ?_
   rotate_left 1
   ·intro w hSw; (try dsimp only at hSw); go_simp; (first | done | with_reducible rfl)
   try simp only [Act.put, qI, qX, qY]
   refine anyT_takeA (i := 1) (v := ?_) (by simp only [qA, qS, qZ]; rfl) (by kernel_rfl) (by kernel_rfl) (by kernel_rfl) (by kernel_rfl) (fun _ _ _ h => h) (Or.inl ⟨by rfl, ?_⟩) (HAX.out _ hb0) (Or.inr (by rw [(blk (HBO.out _ hb0)).1 0]; rfl)) ?_
   rotate_left 1
   ·intro w hSw; (try dsimp only at hSw); go_simp; (first | done | with_reducible rfl)
   try simp only [Act.put, qI, qX, qY]
   refine anyT_takeA (i := 2) (v := ?_) (by simp only [qA, qS, qZ]; rfl) (by kernel_rfl) (by kernel_rfl) (by kernel_rfl) (by kernel_rfl) (fun _ _ _ h => h) (Or.inl ⟨by rfl, ?_⟩) (HAX.out _ hb0) (Or.inr (by rw [(blk (HBO.out _ hb0)).1 0]; rfl)) ?_
   rotate_left 1
   ·intro w hSw; (try dsimp only at hSw); go_simp; (first | done | with_reducible rfl)
   try simp only [Act.put, qI, qX, qY]
   refine anyT_takeA (i := 3) (v := ?_) (by simp only [qA, qS, qZ]; rfl) (by kernel_rfl) (by kernel_rfl) (by kernel_rfl) (by kernel_rfl) (fun _ _ _ h => h) (Or.inl ⟨by rfl, ?_⟩) (HAX.out _ hb0) (Or.inr (by rw [(blk (HBO.out _ hb0)).1 0]; rfl)) ?_
   rotate_left 1
   ·intro w hSw; (try dsimp only at hSw); go_simp; (first | done | with_reducible rfl)
   try simp only [Act.put, qI, qX, qY]
   refine anyT_ready (rs := [4]) (by kernel_rfl) (by simp) ?_
   refine AllReadyT.cons (by simp only [qA, qS, qZ]; rfl) (fun K hK => ?_) AllReadyT.nil
   go_simp
   refine (HSt.out _ hb0).mono ?_
   rintro e W2 ⟨rfl, hst2⟩
   have hbW2 : Below W.heap.size W W2 := below_from hb0 hst2
   refine hK.out _ _ (HAX.out _ hbW2) (Or.inr (by rw [(blk (HBO.out _ hbW2)).1 0]; rfl)) ?_
   clear hK K
   try simp only [Act.put, qI, qX, qY]
   refine anyT_takeA (i := 5) (v := ?_) (by simp only [qA, qS, qZ]; rfl) (by kernel_rfl) (by kernel_rfl) (by kernel_rfl) (by kernel_rfl) (fun _ _ _ h => h) (Or.inl ⟨by rfl, ?_⟩) (HAX.out _ hbW2) (Or.inr (by rw [(blk (HBO.out _ hbW2)).1 0]; rfl)) ?_
   rotate_left 1
   ·intro w hSw; (try dsimp only at hSw); go_simp; (first | done | with_reducible rfl)
   try simp only [Act.put, qI, qX, qY]
   refine anyT_done (by kernel_rfl) ?_ _
   refine hR.out _ _ ?_
   have hb0 : Below W.heap.size W W2.drew := hbW2.drew
   have hr0 : Below W2.heap.size W2 W2.drew := (Below.refl _ _).drew
   gi_wp2_with fail
   refine wpIn_region_T (fun w' => w'.cell? ⟨bb, oo, none⟩ = some (.int .i64 c.quote) ∧ w'.cell? ⟨bb, oo + 1, none⟩ = some (.slice la c.lists.length lc) ∧ w'.cell? ⟨bb, oo + 2, none⟩ = some (.int .i64 c.kind) ∧ w'.cell? ⟨bb, oo + 3, none⟩ = some (.slice ca c.cells.length cc) ∧ w'.cell? ⟨w.heap.size, 0, none⟩ = some (.int .i64 lv)) (fun w' => w'.cell? ⟨w.heap.size + 1, 0, none⟩ = some (.slice sv xs.length sc)) 12 (by kernel_rfl) (by kernel_rfl) (fun R hR => ?_)
   refine anyT_takeA (i := 1) (v := ?_) (by simp only [qA, qS, qZ]; rfl) (by kernel_rfl) (by kernel_rfl) (by kernel_rfl) (by kernel_rfl) (fun _ _ _ h => h) (Or.inl ⟨by rfl, ?_⟩) (HAX.out _ hb0) (Or.inr (by rw [(blk (HBO.out _ hb0)).1 0]; rfl)) ?_
   rotate_left 1
   ·intro w hSw; (try dsimp only at hSw); go_simp; (first | done | with_reducible rfl)
   try simp only [Act.put, qI, qX, qY]
   refine anyT_takeA (i := 2) (v := ?_) (by simp only [qA, qS, qZ]; rfl) (by kernel_rfl) (by kernel_rfl) (by kernel_rfl) (by kernel_rfl) (fun _ _ _ h => h) (Or.inl ⟨by rfl, ?_⟩) (HAX.out _ hb0) (Or.inr (by rw [(blk (HBO.out _ hb0)).1 0]; rfl)) ?_
   rotate_left 1
   ·intro w hSw; (try dsimp only at hSw); go_simp; (first | done | with_reducible rfl)
   try simp only [Act.put, qI, qX, qY]
   refine anyT_takeA (i := 3) (v := ?_) (by simp only [qA, qS, qZ]; rfl) (by kernel_rfl) (by kernel_rfl) (by kernel_rfl) (by kernel_rfl) (fun _ _ _ h => h) (Or.inl ⟨by rfl, ?_⟩) (HAX.out _ hb0) (Or.inr (by rw [(blk (HBO.out _ hb0)).1 0]; rfl)) ?_
   rotate_left 1
   ·intro w hSw; (try dsimp only at hSw); go_simp; (first | done | with_reducible rfl)
   try simp only [Act.put, qI, qX, qY]
   refine anyT_takeA (i := 4) (v := ?_) (by simp only [qA, qS, qZ]; rfl) (by kernel_rfl) (by kernel_rfl) (by kernel_rfl) (by kernel_rfl) (fun _ _ _ h => h) (Or.inl ⟨by rfl, ?_⟩) (HAX.out _ hb0) (Or.inr (by rw [(blk (HBO.out _ hb0)).1 0]; rfl)) ?_
   rotate_left 1
   ·intro w hSw; (try dsimp only at hSw); go_simp; (first | done | with_reducible rfl)
   try simp only [Act.put, qI, qX, qY]
   refine anyT_take (i := 0) (v := ?_) (by simp only [qA, qZ]; rfl) (by kernel_rfl) (by kernel_rfl) (by kernel_rfl) (by kernel_rfl) (fun _ _ _ h => h) (Or.inl ⟨by rfl, ?_⟩) ⟨HAX.out _ hb0, by rw [(blk (HBO.out _ hb0)).1 0]; rfl⟩ ?_
   rotate_left 1
   ·intro w hSw; (try dsimp only at hSw); go_simp; (first | done | with_reducible rfl)
   try simp only [Act.put, qI, qX, qY]
   refine anyT_take (i := 7) (v := ?_) (by simp only [qA, qS, qZ]; rfl) (by kernel_rfl) (by kernel_rfl) (by kernel_rfl) (by kernel_rfl) (fun _ _ _ h => h) (Or.inl ⟨by rfl, ?_⟩) ⟨HAX.out _ hb0, by rw [(blk (HBO.out _ hb0)).1 0]; rfl⟩ ?_
   rotate_left 1
   ·intro w hSw; (try dsimp only at hSw); go_simp; (first | done | with_reducible rfl)
   try simp only [Act.put, qI, qX, qY]
   refine anyT_ready (rs := [5, 8]) (by kernel_rfl) (by simp) ?_
   refine AllReadyT.cons (by simp only [qA, qS, qZ]; rfl) (fun K hK => ?_) ?_
   ·go_simp
    refine (HNo.out _ hb0).mono ?_
    rintro e x1 ⟨sa1, sc1, rfl, hk1, hst1⟩
    have HK1 := Lib.hid hk1
    clear hk1
    have hb1 : Below W.heap.size W x1 := below_from hb0 hst1
    have hr1 : Below W2.heap.size W2 x1 := below_from hr0 hst1
    refine hK.out _ _ (HAX.out _ hb1) (Or.inr (by rw [(blk (HBO.out _ hb1)).1 0]; rfl)) ?_
    clear hK K
    try simp only [Act.put, qI, qX, qY]
    refine anyT_ready (rs := [6, 8]) (by kernel_rfl) (by simp) ?_
    refine AllReadyT.cons (by simp only [qA, qS, qZ]; rfl) (fun K hK => ?_) ?_
    ·go_simp
     refine (HE.out _ _ _ _ _ (by first | exact Below.refl _ _ | assumption) HK1.out).mono ?_
     rintro e x2 ⟨sa2, sc2, rfl, hk2, hst2⟩
     have HK2 := Lib.hid hk2
     clear hk2
     have hb2 : Below W.heap.size W x2 := below_from hb1 hst2
     have hr2 : Below W2.heap.size W2 x2 := below_from hr1 hst2
     refine hK.out _ _ (HAX.out _ hb2) (Or.inr (by rw [(blk (HBO.out _ hb2)).1 0]; rfl)) ?_
     clear hK K
     try simp only [Act.put, qI, qX, qY]
     refine anyT_ready (rs := [8]) (by kernel_rfl) (by simp) ?_
     refine AllReadyT.cons (by simp only [qA, qS, qZ]; rfl) (fun K hK => ?_) AllReadyT.nil
     go_simp
     obtain ⟨x3, hx3⟩ : ∃ X, (x2.alloc (.cells #[.int .i64 0, .slice none 0 0, .string ⟨#[]⟩, .slice none 0 0] 25)) = X := ⟨_, rfl⟩
     have hst3 : Below x2.heap.size x2 x3 := hx3 ▸ (Below.refl _ _).alloc (Nat.le_refl _) _
     have hz3 : x3.heap[x2.heap.size]? = some (.cells #[.int .i64 0, .slice none 0 0, .string ⟨#[]⟩, .slice none 0 0] 25) := hx3 ▸ heap_new _ _ rfl
     rw [hx3]
     clear hx3
     have hb3 : Below W.heap.size W x3 := below_from hb2 hst3
     have hr3 : Below W2.heap.size W2 x3 := below_from hr2 hst3
     refine hK.out _ _ (HAX.out _ hb3) (Or.inr (by rw [(blk (HBO.out _ hb3)).1 0]; rfl)) ?_
     clear hK K
     try simp only [Act.put, qI, qX, qY]
     refine anyT_ready (rs := [9]) (by kernel_rfl) (by simp) ?_
     refine AllReadyT.cons (by simp only [qA, qS, qZ]; rfl) (fun K hK => ?_) AllReadyT.nil
     have hbs4 := hb3.size
     have HRX4 := HRW.out _ hb3
     (refine step_append_X (by rfl) _ _ 23 23 (by rfl) rowNod (eltNod (27 + (n + 1))) w6.heap.size (.slice sv xs.length sc) _ (xs := xs) (ys := [zeroN]) (news := [.int .i64 0, .slice none 0 0, .string ⟨#[]⟩, .slice none 0 0]) (by rfl) (by rfl) HRX4 (Nat.le_trans HIN.out.2 hb3.size) (src_node hz3 (oneV_node zeroN _ _ _ _ _ _) 1) (news_apart (rdNod_stable _ _) HRX4 (Nat.le_trans HIN.out.2 hb3.size) zero_news) hxl ?_)
     intro va4 y4 hra4 hba4 hga4 hor4
     obtain ⟨b4, o4, c4, la4, lc4, ka4, kc4, rfl, hbn4, hbl4, hbh4, hbf4, d0, d1, d2, d3, hcm4⟩ := rowx_last hra4
     have hap4 := app_apart hga4 hor4 HRB.out
     have HAP4 := Lib.hid (And.intro hap4 (And.intro hga4 hba4))
     clear hap4 hor4 hga4
     have HRA4 := Lib.hid hra4
     clear hra4
     have hob4 : y4.heap[(w.heap.size + 1)]? = some (.cells #[.slice sv xs.length sc] 23) := (hba4.block _ (by have := hZB; have := hbs4; omega)).trans (HBO.out _ hb3)
     obtain ⟨qo4, fo4⟩ := blk hob4
     have ne4 : ¬ b4 = (w.heap.size + 1) := by have := hZB; omega
     have hnb4 : b4 ≠ bb ∧ b4 ≠ w.heap.size := ⟨by omega, by omega⟩
     have nf4 : ¬ (w.heap.size + 1) = b4 := by have := hZB; omega
     have i34 : (0 : Int) ≤ ((xs.length : Nat) : Int) := Int.natCast_nonneg _
     have i44 : ((xs.length : Nat) : Int) < ((xs.length : Nat) : Int) + 1 := by omega
     refine hK.out _ _ (HAY.out _ hb3 y4 (HAX.out _ hb3) hba4) (Or.inr (by rw [qo4 0]; rfl)) ?_
     clear hK K
     try simp only [Act.put, qI, qX, qY]
     refine anyT_takeA (i := 10) (v := ?_) (by simp only [qA, qS, qZ]; rfl) (by kernel_rfl) (by kernel_rfl) (by kernel_rfl) (by kernel_rfl) (fun _ _ _ h => h) (Or.inl ⟨by rfl, ?_⟩) (HAY.out _ hb3 y4 (HAX.out _ hb3) hba4) (Or.inr (by rw [qo4 0]; rfl)) ?_
     rotate_left 1
     ·intro w hSw; (try dsimp only at hSw); go_simp; (first | done | with_reducible rfl)
     try simp only [Act.put, qI, qX, qY]
     refine anyT_ready (rs := [11, 12]) (by kernel_rfl) (by simp) ?_
     refine AllReadyT.cons (by simp only [qA, qS, qZ]; rfl) (fun K hK => ?_) ?_
     ·go_simp
      refine hK.out _ _ (HAS.out _ _ _ _ hnb4 (HAS.out _ _ _ _ hnb4 (HAS.out _ _ _ _ hnb4 (HAS.out _ _ _ _ hnb4 (HAY.out _ hb3 y4 (HAX.out _ hb3) hba4))))) (Or.inr ((setCell_block ne4).trans ((setCell_block ne4).trans ((setCell_block ne4).trans ((setCell_block ne4).trans (by rw [qo4 0]; rfl)))))) ?_
      clear hK K
      try simp only [Act.put, qI, qX, qY]
      refine anyT_ready (rs := [12]) (by kernel_rfl) (by simp) ?_
      refine AllReadyT.cons (by simp only [qA, qS, qZ]; rfl) (fun K hK => ?_) AllReadyT.nil
      go_simp
      refine hK.out _ _ (HAS.out _ _ _ _ hno (HAS.out _ _ _ _ hnb4 (HAS.out _ _ _ _ hnb4 (HAS.out _ _ _ _ hnb4 (HAS.out _ _ _ _ hnb4 (HAY.out _ hb3 y4 (HAX.out _ hb3) hba4)))))) (Or.inl (by kernel_rfl)) ?_
      clear hK K
      try simp only [Act.put, qI, qX, qY]
      refine anyT_done (by kernel_rfl) ?_ _
      refine hR.out _ _ ?_
      have hnode := node_ready (h := 27 + n) (n := (.mk z [] [] G)) (SliceR.nil _ _ _ _ _ _) (HK2.out.stable (rdNod_stable _ _) (Keeps.refl _ _) (fun d h _ => Nat.le_trans hb1.size h)) (below_from (Below.refl _ _) hst3) HAP4.out.1.1 HAP4.out.1.2 HIN.out.2
      have hfin := put_done (F := (FN lv n)) HIN.out.1 HIN.out.2 hB1 hB2 hB3 hwZ hb3 HRA4.out HAP4.out.2.2 HAP4.out.2.1 HRX4 HNE.out hbn4 hnode hob4 HT.out
      rw [← map_snoc] at hfin
      gi_wp2_with fail
      exact ⟨hfin.1 _, hfin.2⟩
     refine AllReadyT.cons (by simp only [qA, qS, qZ]; rfl) (fun K hK => ?_) ?_
     ·go_simp
      refine hK.out _ _ (HAS.out _ _ _ _ hno (HAY.out _ hb3 y4 (HAX.out _ hb3) hba4)) (Or.inl (by kernel_rfl)) ?_
      clear hK K
      try simp only [Act.put, qI, qX, qY]
      refine anyT_ready (rs := [11]) (by kernel_rfl) (by simp) ?_
      refine AllReadyT.cons (by simp only [qA, qS, qZ]; rfl) (fun K hK => ?_) AllReadyT.nil
      go_simp
      refine hK.out _ _ (HAS.out _ _ _ _ hnb4 (HAS.out _ _ _ _ hnb4 (HAS.out _ _ _ _ hnb4 (HAS.out _ _ _ _ hnb4 (HAS.out _ _ _ _ hno (HAY.out _ hb3 y4 (HAX.out _ hb3) hba4)))))) (Or.inl (by kernel_rfl)) ?_
      clear hK K
      try simp only [Act.put, qI, qX, qY]
      refine anyT_done (by kernel_rfl) ?_ _
      refine hR.out _ _ ?_
      have hnode := node_ready (h := 27 + n) (n := (.mk z [] [] G)) (SliceR.nil _ _ _ _ _ _) (HK2.out.stable (rdNod_stable _ _) (Keeps.refl _ _) (fun d h _ => Nat.le_trans hb1.size h)) (below_from (Below.refl _ _) hst3) HAP4.out.1.1 HAP4.out.1.2 HIN.out.2
      have hfin := put_done2 (F := (FN lv n)) HIN.out.1 HIN.out.2 hB1 hB2 hB3 hwZ hb3 HRA4.out HAP4.out.2.2 HAP4.out.2.1 HRX4 HNE.out hbn4 hnode hob4 HT.out
      rw [← map_snoc] at hfin
      gi_wp2_with fail
      exact ⟨hfin.1 _, hfin.2⟩
     exact AllReadyT.nil
    refine AllReadyT.cons (by simp only [qA, qS, qZ]; rfl) (fun K hK => ?_) ?_
    ·go_simp
     obtain ⟨x9, hx9⟩ : ∃ X, (x1.alloc (.cells #[.int .i64 0, .slice none 0 0, .string ⟨#[]⟩, .slice none 0 0] 25)) = X := ⟨_, rfl⟩
     have hst9 : Below x1.heap.size x1 x9 := hx9 ▸ (Below.refl _ _).alloc (Nat.le_refl _) _
     have hz9 : x9.heap[x1.heap.size]? = some (.cells #[.int .i64 0, .slice none 0 0, .string ⟨#[]⟩, .slice none 0 0] 25) := hx9 ▸ heap_new _ _ rfl
     rw [hx9]
     clear hx9
     have hb9 : Below W.heap.size W x9 := below_from hb1 hst9
     have hr9 : Below W2.heap.size W2 x9 := below_from hr1 hst9
     refine hK.out _ _ (HAX.out _ hb9) (Or.inr (by rw [(blk (HBO.out _ hb9)).1 0]; rfl)) ?_
     clear hK K
     try simp only [Act.put, qI, qX, qY]
     refine anyT_ready (rs := [6]) (by kernel_rfl) (by simp) ?_
     refine AllReadyT.cons (by simp only [qA, qS, qZ]; rfl) (fun K hK => ?_) AllReadyT.nil
     go_simp
     refine (HE.out _ _ _ _ _ (by first | exact Below.refl _ _ | assumption) HK1.out).mono ?_
     rintro e x10 ⟨sa10, sc10, rfl, hk10, hst10⟩
     have HK10 := Lib.hid hk10
     clear hk10
     have hb10 : Below W.heap.size W x10 := below_from hb9 hst10
     have hr10 : Below W2.heap.size W2 x10 := below_from hr9 hst10
     have hz10 := heap_below hst10 hz9
     refine hK.out _ _ (HAX.out _ hb10) (Or.inr (by rw [(blk (HBO.out _ hb10)).1 0]; rfl)) ?_
     clear hK K
     try simp only [Act.put, qI, qX, qY]
     refine anyT_ready (rs := [9]) (by kernel_rfl) (by simp) ?_
     refine AllReadyT.cons (by simp only [qA, qS, qZ]; rfl) (fun K hK => ?_) AllReadyT.nil
     have hbs11 := hb10.size
     have HRX11 := HRW.out _ hb10
     (refine step_append_X (by rfl) _ _ 23 23 (by rfl) rowNod (eltNod (27 + (n + 1))) w6.heap.size (.slice sv xs.length sc) _ (xs := xs) (ys := [zeroN]) (news := [.int .i64 0, .slice none 0 0, .string ⟨#[]⟩, .slice none 0 0]) (by rfl) (by rfl) HRX11 (Nat.le_trans HIN.out.2 hb10.size) (src_node hz10 (oneV_node zeroN _ _ _ _ _ _) 1) (news_apart (rdNod_stable _ _) HRX11 (Nat.le_trans HIN.out.2 hb10.size) zero_news) hxl ?_)
     intro va11 y11 hra11 hba11 hga11 hor11
     obtain ⟨b11, o11, c11, la11, lc11, ka11, kc11, rfl, hbn11, hbl11, hbh11, hbf11, d0, d1, d2, d3, hcm11⟩ := rowx_last hra11
     have hap11 := app_apart hga11 hor11 HRB.out
     have HAP11 := Lib.hid (And.intro hap11 (And.intro hga11 hba11))
     clear hap11 hor11 hga11
     have HRA11 := Lib.hid hra11
     clear hra11
     have hob11 : y11.heap[(w.heap.size + 1)]? = some (.cells #[.slice sv xs.length sc] 23) := (hba11.block _ (by have := hZB; have := hbs11; omega)).trans (HBO.out _ hb10)
     obtain ⟨qo11, fo11⟩ := blk hob11
     have ne11 : ¬ b11 = (w.heap.size + 1) := by have := hZB; omega
     have hnb11 : b11 ≠ bb ∧ b11 ≠ w.heap.size := ⟨by omega, by omega⟩
     have nf11 : ¬ (w.heap.size + 1) = b11 := by have := hZB; omega
     have i311 : (0 : Int) ≤ ((xs.length : Nat) : Int) := Int.natCast_nonneg _
     have i411 : ((xs.length : Nat) : Int) < ((xs.length : Nat) : Int) + 1 := by omega
     refine hK.out _ _ (HAY.out _ hb10 y11 (HAX.out _ hb10) hba11) (Or.inr (by rw [qo11 0]; rfl)) ?_
     clear hK K
     try simp only [Act.put, qI, qX, qY]
     refine anyT_takeA (i := 10) (v := ?_) (by simp only [qA, qS, qZ]; rfl) (by kernel_rfl) (by kernel_rfl) (by kernel_rfl) (by kernel_rfl) (fun _ _ _ h => h) (Or.inl ⟨by rfl, ?_⟩) (HAY.out _ hb10 y11 (HAX.out _ hb10) hba11) (Or.inr (by rw [qo11 0]; rfl)) ?_
     rotate_left 1
     ·intro w hSw; (try dsimp only at hSw); go_simp; (first | done | with_reducible rfl)
     try simp only [Act.put, qI, qX, qY]
     refine anyT_ready (rs := [11, 12]) (by kernel_rfl) (by simp) ?_
     refine AllReadyT.cons (by simp only [qA, qS, qZ]; rfl) (fun K hK => ?_) ?_
     ·go_simp
      refine hK.out _ _ (HAS.out _ _ _ _ hnb11 (HAS.out _ _ _ _ hnb11 (HAS.out _ _ _ _ hnb11 (HAS.out _ _ _ _ hnb11 (HAY.out _ hb10 y11 (HAX.out _ hb10) hba11))))) (Or.inr ((setCell_block ne11).trans ((setCell_block ne11).trans ((setCell_block ne11).trans ((setCell_block ne11).trans (by rw [qo11 0]; rfl)))))) ?_
      clear hK K
      try simp only [Act.put, qI, qX, qY]
      refine anyT_ready (rs := [12]) (by kernel_rfl) (by simp) ?_
      refine AllReadyT.cons (by simp only [qA, qS, qZ]; rfl) (fun K hK => ?_) AllReadyT.nil
      go_simp
      refine hK.out _ _ (HAS.out _ _ _ _ hno (HAS.out _ _ _ _ hnb11 (HAS.out _ _ _ _ hnb11 (HAS.out _ _ _ _ hnb11 (HAS.out _ _ _ _ hnb11 (HAY.out _ hb10 y11 (HAX.out _ hb10) hba11)))))) (Or.inl (by kernel_rfl)) ?_
      clear hK K
      try simp only [Act.put, qI, qX, qY]
      refine anyT_done (by kernel_rfl) ?_ _
      refine hR.out _ _ ?_
      have hnode := node_ready (h := 27 + n) (n := (.mk z [] [] G)) (SliceR.nil _ _ _ _ _ _) (HK10.out.stable (rdNod_stable _ _) (Keeps.refl _ _) (fun d h _ => Nat.le_trans hb9.size h)) (Below.refl _ _) HAP11.out.1.1 HAP11.out.1.2 HIN.out.2
      have hfin := put_done (F := (FN lv n)) HIN.out.1 HIN.out.2 hB1 hB2 hB3 hwZ hb10 HRA11.out HAP11.out.2.2 HAP11.out.2.1 HRX11 HNE.out hbn11 hnode hob11 HT.out
      rw [← map_snoc] at hfin
      gi_wp2_with fail
      exact ⟨hfin.1 _, hfin.2⟩
     refine AllReadyT.cons (by simp only [qA, qS, qZ]; rfl) (fun K hK => ?_) ?_
     ·go_simp
      refine hK.out _ _ (HAS.out _ _ _ _ hno (HAY.out _ hb10 y11 (HAX.out _ hb10) hba11)) (Or.inl (by kernel_rfl)) ?_
      clear hK K
      try simp only [Act.put, qI, qX, qY]
      refine anyT_ready (rs := [11]) (by kernel_rfl) (by simp) ?_
      refine AllReadyT.cons (by simp only [qA, qS, qZ]; rfl) (fun K hK => ?_) AllReadyT.nil
      go_simp
      refine hK.out _ _ (HAS.out _ _ _ _ hnb11 (HAS.out _ _ _ _ hnb11 (HAS.out _ _ _ _ hnb11 (HAS.out _ _ _ _ hnb11 (HAS.out _ _ _ _ hno (HAY.out _ hb10 y11 (HAX.out _ hb10) hba11)))))) (Or.inl (by kernel_rfl)) ?_
      clear hK K
      try simp only [Act.put, qI, qX, qY]
      refine anyT_done (by kernel_rfl) ?_ _
      refine hR.out _ _ ?_
      have hnode := node_ready (h := 27 + n) (n := (.mk z [] [] G)) (SliceR.nil _ _ _ _ _ _) (HK10.out.stable (rdNod_stable _ _) (Keeps.refl _ _) (fun d h _ => Nat.le_trans hb9.size h)) (Below.refl _ _) HAP11.out.1.1 HAP11.out.1.2 HIN.out.2
      have hfin := put_done2 (F := (FN lv n)) HIN.out.1 HIN.out.2 hB1 hB2 hB3 hwZ hb10 HRA11.out HAP11.out.2.2 HAP11.out.2.1 HRX11 HNE.out hbn11 hnode hob11 HT.out
      rw [← map_snoc] at hfin
      gi_wp2_with fail
      exact ⟨hfin.1 _, hfin.2⟩
     exact AllReadyT.nil
    exact AllReadyT.nil
   refine AllReadyT.cons (by simp only [qA, qS, qZ]; rfl) (fun K hK => ?_) ?_
   ·go_simp
    obtain ⟨x16, hx16⟩ : ∃ X, (W2.alloc (.cells #[.int .i64 0, .slice none 0 0, .string ⟨#[]⟩, .slice none 0 0] 25)).drew = X := ⟨_, rfl⟩
    have hst16 : Below W2.heap.size W2 x16 := hx16 ▸ ((Below.refl _ _).alloc (Nat.le_refl _) _).drew
    have hz16 : x16.heap[W2.heap.size]? = some (.cells #[.int .i64 0, .slice none 0 0, .string ⟨#[]⟩, .slice none 0 0] 25) := hx16 ▸ (show ((W2.alloc (.cells #[.int .i64 0, .slice none 0 0, .string ⟨#[]⟩, .slice none 0 0] 25)).drew).heap[W2.heap.size]? = _ from heap_new _ _ rfl)
    rw [hx16]
    clear hx16
    have hb16 : Below W.heap.size W x16 := below_from hbW2 hst16
    have hr16 : Below W2.heap.size W2 x16 := hst16
    refine hK.out _ _ (HAX.out _ hb16) (Or.inr (by rw [(blk (HBO.out _ hb16)).1 0]; rfl)) ?_
    clear hK K
    try simp only [Act.put, qI, qX, qY]
    refine anyT_ready (rs := [5]) (by kernel_rfl) (by simp) ?_
    refine AllReadyT.cons (by simp only [qA, qS, qZ]; rfl) (fun K hK => ?_) AllReadyT.nil
    go_simp
    refine (HNo.out _ hb16).mono ?_
    rintro e x17 ⟨sa17, sc17, rfl, hk17, hst17⟩
    have HK17 := Lib.hid hk17
    clear hk17
    have hb17 : Below W.heap.size W x17 := below_from hb16 hst17
    have hr17 : Below W2.heap.size W2 x17 := below_from hr16 hst17
    have hz17 := heap_below hst17 hz16
    refine hK.out _ _ (HAX.out _ hb17) (Or.inr (by rw [(blk (HBO.out _ hb17)).1 0]; rfl)) ?_
    clear hK K
    try simp only [Act.put, qI, qX, qY]
    refine anyT_ready (rs := [6]) (by kernel_rfl) (by simp) ?_
    refine AllReadyT.cons (by simp only [qA, qS, qZ]; rfl) (fun K hK => ?_) AllReadyT.nil
    go_simp
    refine (HE.out _ _ _ _ _ (by first | exact Below.refl _ _ | assumption) HK17.out).mono ?_
    rintro e x18 ⟨sa18, sc18, rfl, hk18, hst18⟩
    have HK18 := Lib.hid hk18
    clear hk18
    have hb18 : Below W.heap.size W x18 := below_from hb17 hst18
    have hr18 : Below W2.heap.size W2 x18 := below_from hr17 hst18
    have hz18 := heap_below hst18 hz17
    refine hK.out _ _ (HAX.out _ hb18) (Or.inr (by rw [(blk (HBO.out _ hb18)).1 0]; rfl)) ?_
    clear hK K
    try simp only [Act.put, qI, qX, qY]
    refine anyT_ready (rs := [9]) (by kernel_rfl) (by simp) ?_
    refine AllReadyT.cons (by simp only [qA, qS, qZ]; rfl) (fun K hK => ?_) AllReadyT.nil
    have hbs19 := hb18.size
    have HRX19 := HRW.out _ hb18
    (refine step_append_X (by rfl) _ _ 23 23 (by rfl) rowNod (eltNod (27 + (n + 1))) w6.heap.size (.slice sv xs.length sc) _ (xs := xs) (ys := [zeroN]) (news := [.int .i64 0, .slice none 0 0, .string ⟨#[]⟩, .slice none 0 0]) (by rfl) (by rfl) HRX19 (Nat.le_trans HIN.out.2 hb18.size) (src_node hz18 (oneV_node zeroN _ _ _ _ _ _) 1) (news_apart (rdNod_stable _ _) HRX19 (Nat.le_trans HIN.out.2 hb18.size) zero_news) hxl ?_)
    intro va19 y19 hra19 hba19 hga19 hor19
    obtain ⟨b19, o19, c19, la19, lc19, ka19, kc19, rfl, hbn19, hbl19, hbh19, hbf19, d0, d1, d2, d3, hcm19⟩ := rowx_last hra19
    have hap19 := app_apart hga19 hor19 HRB.out
    have HAP19 := Lib.hid (And.intro hap19 (And.intro hga19 hba19))
    clear hap19 hor19 hga19
    have HRA19 := Lib.hid hra19
    clear hra19
    have hob19 : y19.heap[(w.heap.size + 1)]? = some (.cells #[.slice sv xs.length sc] 23) := (hba19.block _ (by have := hZB; have := hbs19; omega)).trans (HBO.out _ hb18)
    obtain ⟨qo19, fo19⟩ := blk hob19
    have ne19 : ¬ b19 = (w.heap.size + 1) := by have := hZB; omega
    have hnb19 : b19 ≠ bb ∧ b19 ≠ w.heap.size := ⟨by omega, by omega⟩
    have nf19 : ¬ (w.heap.size + 1) = b19 := by have := hZB; omega
    have i319 : (0 : Int) ≤ ((xs.length : Nat) : Int) := Int.natCast_nonneg _
    have i419 : ((xs.length : Nat) : Int) < ((xs.length : Nat) : Int) + 1 := by omega
    refine hK.out _ _ (HAY.out _ hb18 y19 (HAX.out _ hb18) hba19) (Or.inr (by rw [qo19 0]; rfl)) ?_
    clear hK K
    try simp only [Act.put, qI, qX, qY]
    refine anyT_takeA (i := 10) (v := ?_) (by simp only [qA, qS, qZ]; rfl) (by kernel_rfl) (by kernel_rfl) (by kernel_rfl) (by kernel_rfl) (fun _ _ _ h => h) (Or.inl ⟨by rfl, ?_⟩) (HAY.out _ hb18 y19 (HAX.out _ hb18) hba19) (Or.inr (by rw [qo19 0]; rfl)) ?_
    rotate_left 1
    ·intro w hSw; (try dsimp only at hSw); go_simp; (first | done | with_reducible rfl)
    try simp only [Act.put, qI, qX, qY]
    refine anyT_ready (rs := [11, 12]) (by kernel_rfl) (by simp) ?_
    refine AllReadyT.cons (by simp only [qA, qS, qZ]; rfl) (fun K hK => ?_) ?_
    ·go_simp
     refine hK.out _ _ (HAS.out _ _ _ _ hnb19 (HAS.out _ _ _ _ hnb19 (HAS.out _ _ _ _ hnb19 (HAS.out _ _ _ _ hnb19 (HAY.out _ hb18 y19 (HAX.out _ hb18) hba19))))) (Or.inr ((setCell_block ne19).trans ((setCell_block ne19).trans ((setCell_block ne19).trans ((setCell_block ne19).trans (by rw [qo19 0]; rfl)))))) ?_
     clear hK K
     try simp only [Act.put, qI, qX, qY]
     refine anyT_ready (rs := [12]) (by kernel_rfl) (by simp) ?_
     refine AllReadyT.cons (by simp only [qA, qS, qZ]; rfl) (fun K hK => ?_) AllReadyT.nil
     go_simp
     refine hK.out _ _ (HAS.out _ _ _ _ hno (HAS.out _ _ _ _ hnb19 (HAS.out _ _ _ _ hnb19 (HAS.out _ _ _ _ hnb19 (HAS.out _ _ _ _ hnb19 (HAY.out _ hb18 y19 (HAX.out _ hb18) hba19)))))) (Or.inl (by kernel_rfl)) ?_
     clear hK K
     try simp only [Act.put, qI, qX, qY]
     refine anyT_done (by kernel_rfl) ?_ _
     refine hR.out _ _ ?_
     have hnode := node_ready (h := 27 + n) (n := (.mk z [] [] G)) (SliceR.nil _ _ _ _ _ _) (HK18.out.stable (rdNod_stable _ _) (Keeps.refl _ _) (fun d h _ => Nat.le_trans hb17.size h)) (Below.refl _ _) HAP19.out.1.1 HAP19.out.1.2 HIN.out.2
     have hfin := put_done (F := (FN lv n)) HIN.out.1 HIN.out.2 hB1 hB2 hB3 hwZ hb18 HRA19.out HAP19.out.2.2 HAP19.out.2.1 HRX19 HNE.out hbn19 hnode hob19 HT.out
     rw [← map_snoc] at hfin
     gi_wp2_with fail
     exact ⟨hfin.1 _, hfin.2⟩
    refine AllReadyT.cons (by simp only [qA, qS, qZ]; rfl) (fun K hK => ?_) ?_
    ·go_simp
     refine hK.out _ _ (HAS.out _ _ _ _ hno (HAY.out _ hb18 y19 (HAX.out _ hb18) hba19)) (Or.inl (by kernel_rfl)) ?_
     clear hK K
     try simp only [Act.put, qI, qX, qY]
     refine anyT_ready (rs := [11]) (by kernel_rfl) (by simp) ?_
     refine AllReadyT.cons (by simp only [qA, qS, qZ]; rfl) (fun K hK => ?_) AllReadyT.nil
     go_simp
     refine hK.out _ _ (HAS.out _ _ _ _ hnb19 (HAS.out _ _ _ _ hnb19 (HAS.out _ _ _ _ hnb19 (HAS.out _ _ _ _ hnb19 (HAS.out _ _ _ _ hno (HAY.out _ hb18 y19 (HAX.out _ hb18) hba19)))))) (Or.inl (by kernel_rfl)) ?_
     clear hK K
     try simp only [Act.put, qI, qX, qY]
     refine anyT_done (by kernel_rfl) ?_ _
     refine hR.out _ _ ?_
     have hnode := node_ready (h := 27 + n) (n := (.mk z [] [] G)) (SliceR.nil _ _ _ _ _ _) (HK18.out.stable (rdNod_stable _ _) (Keeps.refl _ _) (fun d h _ => Nat.le_trans hb17.size h)) (Below.refl _ _) HAP19.out.1.1 HAP19.out.1.2 HIN.out.2
     have hfin := put_done2 (F := (FN lv n)) HIN.out.1 HIN.out.2 hB1 hB2 hB3 hwZ hb18 HRA19.out HAP19.out.2.2 HAP19.out.2.1 HRX19 HNE.out hbn19 hnode hob19 HT.out
     rw [← map_snoc] at hfin
     gi_wp2_with fail
     exact ⟨hfin.1 _, hfin.2⟩
    exact AllReadyT.nil
   exact AllReadyT.nil
 case done =>
  rintro D ys W hD hys ⟨v9, t0, hR, hne, hb, hz⟩ hK
  have e : ((ys.map toX).flatMap fun y : PartX d => (FN lv n) (cutP d y.1)) = hostL (lineN (gr rowK)) (n + 1) lv d := by
   unfold hostL
   rw [← hys, List.flatMap_map, List.flatMap_map]
   rfl
  rw [e] at hR
  have hrow := RwX.row (rdNod_stable _ _) ((rowx_own D w6.heap.size (27 + (n + 1)) v9 (fun _ : Unit => hostL (lineN (gr rowK)) (n + 1) lv d)).putObj (s := ()) (.deferred none) hR (Nat.le_refl _) hK rfl)
  obtain ⟨s0, s0f⟩ := blk t0
  obtain ⟨va9, c9, rfl⟩ := hR.slice
  have HROW := Lib.hid hrow
  have HB9 := Lib.hid hb
  have HK9 := Lib.hid hK
  clear hR hb hK hne hrow e
  generalize (hostL (lineN (gr rowK)) (n + 1) lv d).length = n9 at *
  gi_wp2_with fail
  refine ⟨by simp, .inl ⟨_, _, rfl, run_takeDeferred HK9.out, ?_⟩⟩
  refine ⟨.slice va9 n9 c9, by simp [results, Tryz.results59, go_sem], ?_⟩
  refine ⟨_, rfl, SliceR.stable (rdNod_stable _ _) HROW.out (Keeps.refl _ _) (fun b h _ => Nat.le_trans (Nat.le_trans hww hwZ) h), ?_⟩
  exact HBW.out.trans ((HB9.out.trans (belowK_b (w := w1) (Nat.le_refl _) W D _ _ (by omega) HK9.out rfl rfl)).mono hww)
theorem nodes_all : ∀ n, NodesAt n
 | 0 => fun lv v d w w0 S _ _ hne _ hok _ => by
  cases d with
  | nil => exact absurd rfl hne
  | cons l d =>
   obtain ⟨_, _, _, _, h1, h2⟩ := hok l (by simp)
   omega
 | n + 1 => nodes_step n (nodes_all n)
end Go.Proofs.YtjpgffihafknlaaGreatDoor
namespace Go.Proofs.YtjpgffihafknlaaGreatDoor
open Go.RowKit
open Go.Proofs.Qw
attribute [local go_sem] Oper.semAt_some
theorem results_nt {fn : Func} {t p : Tmp} (h : fn.results = #[.cell p 25, .tmp t]) (tmps : Array Value) (w : World) (B : Nat) (x y z u : Value) (hp : tmps.getD p undef = .pointer (some ⟨B, 0, none⟩)) (hB : w.heap[B]? = some (.cells #[x, y, z, u] 25)) :
  (results fn tmps).run Tryz.prog w = .ok (.tuple #[.agg #[x, y, z, u], tmps.getD t undef]) w := by
 have hp' : tmps[p]?.getD undef = .pointer (some ⟨B, 0, none⟩) := by simpa using hp
 have h1 := run_loadVar_row (P := Tryz.prog) w B 25 25 _ _ _ hB Tryz.underlying25 rfl (by kernel_rfl)
 simp [results, h, hp', asAddr, h1]
theorem may_iffH {d : Doc} (h : mayD d = true) : d.length ≤ 200 ∧ sizeD d ≤ 4000 := by
 unfold mayD at h
 simp only [Bool.and_eq_true, decide_eq_true_eq] at h
 exact ⟨h.1.1.2, h.1.2⟩
theorem may_smallH {d : Doc} (h : mayD d = true) : Small d := by
 obtain ⟨h2, h3⟩ := may_iffH h
 refine ⟨by omega, by omega, fun l hl c hc => ?_⟩
 obtain ⟨_, _, _, _, _, _, _, h8⟩ := (ok_of_may h).2 l hl
 rcases (h8 c hc).2.2.2 with e | e
 ·rw [e]; simp
 ·unfold targetF valueF valueB at e
  simp only [Bool.and_eq_true, decide_eq_true_eq] at e
  have h5 := e.1.2.1
  have : (⟨c.href.toArray⟩ : ByteArray).size = c.href.length := by show c.href.toArray.size = _; simp
  omega
theorem lin_for {d : List Lin} (h : mayD d = true) : ∀ l ∈ d, LinFor 0 13 l := fun l hl => by
 have ho := (ok_of_may h).2 l hl
 have h1 := way_len ho
 have h2 : l.cells.length ≤ sizeD d := by
  obtain ⟨k, hk⟩ := List.getElem?_of_mem hl
  exact cells_le hk
 have h3 := (may_iffH h).2
 obtain ⟨a1, a2, a3, a4, a5, _⟩ := ho
 exact ⟨a4, a5, by omega, by omega, by omega, Nat.zero_le _⟩
set_option maxRecDepth 100000 in
set_option maxHeartbeats 4000000 in
theorem host_yes (v : Value) (d : List Lin) (w w0 : World) (S : Nat → Prop) (hv : LinsR w0 S v d) (he : EnvT w) (h0 : Below w0.heap.size w0 w) (hm : mayD d = true) :
  Calls Tryz.prog 34 #[v] w fun e w' => ∃ k', e = .returned (.tuple #[nodV (hostN d) (.slice none 0 0) k', .int .i64 0]) ∧ NodsR true 40 w' (fun b => w.heap.size ≤ b) k' (hostN d).kids ∧ Below w.heap.size w w' := by
 have HM : Hid (∀ X, Below w.heap.size w X → Calls Tryz.prog 23 #[v] X fun e X' => e = .returned (.bool true) ∧ Below X.heap.size X X') := Lib.hid fun X hX => hm ▸ docMay_any v d X w0 S hv (he.below hX) (below_from h0 hX) (may_smallH hm)
 have hne := (ok_of_may hm).1
 have hfor := lin_for hm
 have hml := (may_iffH hm).1
 have hhl := host_len (lineN (gr rowK)) 13 0 d
 have hhf := host_fit 13 0 d (by omega) (fun y hy => by have := (hfor y hy).2.2.1; omega)
 have HN : Hid (∀ X, Below w.heap.size w X → Calls Tryz.prog 59 #[v, .int .i64 0] X fun e X' => ∃ ka kc, e = .returned (.slice ka (hostL (lineN (gr rowK)) 13 0 d).length kc) ∧ NodsR true 40 X' (fun b => X.heap.size ≤ b) (.slice ka (hostL (lineN (gr rowK)) 13 0 d).length kc) (hostL (lineN (gr rowK)) 13 0 d) ∧ Below X.heap.size X X') := Lib.hid fun X hX => (nodes_all 13 0 v d X w0 S hv (below_from h0 hX) hne (by omega) hfor (by omega)).mono fun _ _ ⟨k', h1, h2, h3⟩ => by
  obtain ⟨ka, kc, rfl⟩ := h2.slice
  exact ⟨ka, kc, h1, h2, h3⟩
 have HE : Hid (∀ X X0 ka kc, NodsR true 40 X (fun b => X0 ≤ b) (.slice ka (hostL (lineN (gr rowK)) 13 0 d).length kc) (hostL (lineN (gr rowK)) 13 0 d) → Calls Tryz.prog 58 #[.int .i64 1, .slice ka (hostL (lineN (gr rowK)) 13 0 d).length kc] X fun e X' => ∃ ka kc, e = .returned (.agg #[.int .i64 1, .slice none 0 0, .string ⟨#[]⟩, .slice ka (hostL (lineN (gr rowK)) 13 0 d).length kc]) ∧ NodsR true 40 X' (fun b => X.heap.size ≤ b) (.slice ka (hostL (lineN (gr rowK)) 13 0 d).length kc) (hostL (lineN (gr rowK)) 13 0 d) ∧ Below X.heap.size X X') := Lib.hid fun X X0 ka kc hk => (elem_any 40 1 _ _ true X X _ hk (Below.refl _ _) (by omega) hhf).mono fun _ _ ⟨k', h1, h2, h3⟩ => by
  obtain ⟨ka, kc, rfl⟩ := h2.slice
  exact ⟨ka, kc, h1, h2, h3⟩
 unfold hostN nodV
 obtain ⟨va, vc, rfl⟩ := hv.slice
 obtain ⟨W1, hW1, hB, hz, hB1⟩ := one_node w (.int .i64 0) (.slice none 0 0) (.string ⟨#[]⟩) (.slice none 0 0)
 have H1 := Lib.hid hB1
 have HB := Lib.hid hB
 have HZ := Lib.hid hz
 obtain ⟨p1, f1⟩ := blk hB1
 clear hv he h0 hm hne hfor hml hhl hhf hz hB hB1
 show Calls _ _ _ _ fun e w' => ∃ k', e = .returned (.tuple #[.agg #[.int .i64 1, .slice none 0 0, .string ⟨#[]⟩, k'], .int .i64 0]) ∧ NodsR true 40 w' (fun b => w.heap.size ≤ b) k' (hostL (lineN (gr rowK)) 13 0 d) ∧ Below w.heap.size w w'
 generalize hostL (lineN (gr rowK)) 13 0 d = G at *
 go_enter Tryz.func34, Tryz.ntmps34
 go_wp2_with (first
  | (go_at_call 23; refine (HM.out _ HB.out).mono ?_; rintro e w2 ⟨rfl, hb2⟩; have hx2 := below_from HB.out hb2)
  | (go_at_call 59; refine (HN.out _ hx2).mono ?_; rintro e w3 ⟨ka, kc, rfl, hk3', hb3⟩; have HK3 := Lib.hid hk3'; clear hk3'; have hx3 := below_from hx2 hb3)
  | (go_at_call 58; refine (HE.out _ _ _ _ HK3.out).mono ?_; rintro e w4 ⟨ka4, kc4, rfl, hk4, hb4⟩; have HK4 := Lib.hid hk4; clear hk4; have hx4 := below_from hx3 hb4; have hB4 := heap_below (below_from (below_from hb2 hb3) hb4) H1.out; obtain ⟨q1, g1⟩ := blk hB4))
 have z := HZ.out
 have hz2 := hb2.size
 have hz3 := hb3.size
 have hz4 := hb4.size
 refine bodyPost_ret (results_nt rfl _ _ w.heap.size (.int .i64 1) (.slice none 0 0) (.string ⟨#[]⟩) (.slice ka4 G.length kc4) rfl (by simp [heap_set, putIn, hB4])) rfl ?_
 refine ⟨_, rfl, HK4.out.stable (rdNod_stable _ _) (((((Keeps.refl _ _).set (by simp; omega) _).set (by simp; omega) _).set (by simp; omega) _).set (by simp; omega) _) (fun b h _ => ?_), ?_⟩
 ·have h : w3.heap.size ≤ b := h
  show w.heap.size ≤ b
  omega
 ·exact (((hx4.setCell (Nat.le_refl _) _).setCell (Nat.le_refl _) _).setCell (Nat.le_refl _) _).setCell (Nat.le_refl _) _
set_option maxRecDepth 100000 in
set_option maxHeartbeats 4000000 in
theorem host_no (v : Value) (d : List Lin) (w w0 : World) (S : Nat → Prop) (hv : LinsR w0 S v d) (he : EnvT w) (h0 : Below w0.heap.size w0 w) (hs : Small d) (hm : mayD d = false) :
  Calls Tryz.prog 34 #[v] w fun e w' => e = .returned (.tuple #[.agg #[.int .i64 0, .slice none 0 0, .string ⟨#[]⟩, .slice none 0 0], .int .i64 1]) ∧ Below w.heap.size w w' := by
 have HM : Hid (∀ X, Below w.heap.size w X → Calls Tryz.prog 23 #[v] X fun e X' => e = .returned (.bool false) ∧ Below X.heap.size X X') := Lib.hid fun X hX => hm ▸ docMay_any v d X w0 S hv (he.below hX) (below_from h0 hX) hs
 obtain ⟨va, vc, rfl⟩ := hv.slice
 obtain ⟨W1, hW1, hB, hz, hB1⟩ := one_node w (.int .i64 0) (.slice none 0 0) (.string ⟨#[]⟩) (.slice none 0 0)
 have H1 := Lib.hid hB1
 have HB := Lib.hid hB
 have HZ := Lib.hid hz
 obtain ⟨p1, f1⟩ := blk hB1
 clear hv he h0 hs hm hz hB hB1
 go_enter Tryz.func34, Tryz.ntmps34
 go_wp2_with (first
  | (go_at_call 23; refine (HM.out _ HB.out).mono ?_; rintro e w2 ⟨rfl, hb2⟩; have hx2 := below_from HB.out hb2; have hB4 := heap_below hb2 H1.out; obtain ⟨q1, g1⟩ := blk hB4))
 have z := HZ.out
 have hz2 := hb2.size
 refine bodyPost_ret (results_nt rfl _ _ w.heap.size (.int .i64 0) (.slice none 0 0) (.string ⟨#[]⟩) (.slice none 0 0) rfl (by simp [heap_set, putIn, hB4])) rfl ?_
 refine ⟨rfl, ?_⟩
 exact (((hx2.setCell (Nat.le_refl _) _).setCell (Nat.le_refl _) _).setCell (Nat.le_refl _) _).setCell (Nat.le_refl _) _
end Go.Proofs.YtjpgffihafknlaaGreatDoor
namespace Go.Proofs.Qw
open Go.RowKit
theorem lastPath_len : ∀ (n j : Nat) (l : List Nod), (lastPath n j l).length = n
 | 0, _, _ => rfl
 | n + 1, j, l => by rw [lastPath, List.length_cons, lastPath_len n]
theorem isD_parts {d : Doc} {q : Ps} (h : isD d q = true) : 0 ≤ q.line ∧ q.line < d.length ∧ 0 ≤ q.col ∧ ∃ l, d[q.line.toNat]? = some l ∧ q.col ≤ (l.cells.length : Int) := by
 unfold isD at h
 simp only [Bool.and_eq_true, decide_eq_true_eq] at h
 obtain ⟨⟨⟨h1, h2⟩, h3⟩, h4⟩ := h
 obtain ⟨l, hl⟩ : ∃ l, d[q.line.toNat]? = some l := ⟨_, List.getElem?_eq_getElem (by omega)⟩
 refine ⟨h1, h2, h3, l, hl, ?_⟩
 rw [List.getD_eq_getElem?_getD, hl] at h4
 exact h4
def leafR (m : Nod) (p : List Int) (c : Int) : List Int × Int := match leafF m p c with | .inl r => r | .inr _ => ([], 0)
theorem point_col {d : List Lin} (hd : ∀ l ∈ d, LinOk l) {q : Ps} {l : Lin} (hl : d[q.line.toNat]? = some l) : pointN d q = if q.col = 0 then (lastPath ((wayL l).length + 1) 0 (hostL (lineN (gr rowK)) 13 0 (d.take (q.line.toNat + 1))), 0) else leafR (lineN (gr rowK) l) (lastPath ((wayL l).length + 1) 0 (hostL (lineN (gr rowK)) 13 0 (d.take (q.line.toNat + 1)))) q.col := by
 unfold pointN
 rw [host_line hd hl]
 rfl
mutual
theorem leafF_path : ∀ (n : Nod) (p : List Int) (c : Int) (r : List Int × Int), leafF n p c = .inl r → r.1.length ≤ p.length + n.deep
 | .mk _ _ _ ks, p, c, r, h => by rw [Nod.deep]; exact leafK_path ks 0 p c r (by rw [leafF] at h; exact h)
theorem leafK_path : ∀ (ks : List Nod) (t : Nat) (p : List Int) (c : Int) (r : List Int × Int), leafK ks t p c = .inl r → r.1.length ≤ p.length + Nod.deeps ks
 | [], t, p, c, r, h => by rw [leafK_nil] at h; cases h
 | k :: ks, t, p, c, r, h => by
  have e : Nod.deeps (k :: ks) = max (k.deep + 1) (Nod.deeps ks) := by rw [Nod.deeps]
  rw [leafK_cons] at h
  split at h
  ·split at h
   ·cases h
    show p.length ≤ _
    omega
   ·have := leafK_path ks _ _ _ _ h
    omega
  ·split at h
   ·cases hr : leafF k (p ++ [(t : Int)]) c with
    | inl r' =>
     rw [hr] at h
     cases h
     have := leafF_path k _ _ _ hr
     rw [List.length_append, List.length_singleton] at this
     omega
    | inr c2 =>
     rw [hr] at h
     have := leafK_path ks _ _ _ _ h
     omega
   ·split at h
    ·cases h
     show (p ++ [(t : Int)]).length ≤ _
     rw [List.length_append, List.length_singleton]
     omega
    ·have := leafK_path ks _ _ _ _ h
     omega
end
end Go.Proofs.Qw
namespace Go.Proofs.YtjpgffihafknlaaGreatDoor
open Go.RowKit
open Go.Proofs.Qw
attribute [local go_sem] Oper.semAt_some
theorem deeps_all : ∀ {l : List Nod} {B : Nat}, (∀ n ∈ l, n.deep + 1 ≤ B) → Nod.deeps l ≤ B
 | [], B, _ => by rw [Nod.deeps]; omega
 | k :: ks, B, h => by
  have e : Nod.deeps (k :: ks) = max (k.deep + 1) (Nod.deeps ks) := by rw [Nod.deeps]
  have h1 := h k (by simp)
  have h2 := deeps_all (l := ks) (B := B) (fun n hn => h n (by simp [hn]))
  omega
theorem rd_deep : ∀ {h : Nat} {own : Bool} {w : World} {S : Nat → Prop} {vs : List Value} {n : Nod}, rdNod own h w S vs n → n.deep + 1 ≤ h
 | 0, _, _, _, _, _, h => h.elim
 | h + 1, _, _, _, _, n, ⟨a, k, h1, h2, h3⟩ => by
  have : n.deep = Nod.deeps n.kids := by cases n; rw [Nod.deep]; rfl
  rw [this]
  have := deeps_all (l := n.kids) (B := h) (fun x hx => by
   obtain ⟨i, hi⟩ := List.getElem?_of_mem hx
   obtain ⟨_, _, _, _, _, hx⟩ := SliceR.shape h3
   obtain ⟨_, _, _, _, _, _, _, hR, _⟩ := hx i x hi
   exact rd_deep hR)
  omega
theorem nods_deep {h : Nat} {own : Bool} {w : World} {S : Nat → Prop} {v : Value} {l : List Nod} (hv : NodsR own h w S v l) : Nod.deeps l ≤ h := deeps_all fun x hx => by
 obtain ⟨i, hi⟩ := List.getElem?_of_mem hx
 obtain ⟨_, _, _, _, _, hx⟩ := SliceR.shape hv
 obtain ⟨_, _, _, _, _, _, _, hR, _⟩ := hx i x hi
 exact rd_deep hR
theorem pos_point (w : World) (x1 x2 y1 y2 : Value) : ∃ W1, (w.alloc (.cells #[x1, x2] 46)).alloc (.cells #[y1, y2] 44) = W1 ∧ Below w.heap.size w W1 ∧ w.heap.size + 1 < W1.heap.size ∧ W1.heap[w.heap.size]? = some (.cells #[x1, x2] 46) ∧ W1.heap[w.heap.size + 1]? = some (.cells #[y1, y2] 44) :=
 ⟨_, rfl, ((Below.refl _ _).alloc (Nat.le_refl _) _).alloc (by simp) _, by simp, heap_old _ _ (heap_new _ _ rfl), heap_new _ _ (by simp)⟩
set_option maxRecDepth 100000 in
set_option maxHeartbeats 4000000 in
theorem point_no (v : Value) (d : List Lin) (q : Ps) (w w0 : World) (S : Nat → Prop) (hv : LinsR w0 S v d) (he : EnvT w) (h0 : Below w0.heap.size w0 w) (hs : Small d) (hm : mayD d = false ∨ isD d q = false) :
  Calls Tryz.prog 35 #[v, .agg #[.int .i64 q.line, .int .i64 q.col]] w fun e w' => e = .returned (.tuple #[.agg #[.slice none 0 0, .int .i64 0], .int .i64 1]) ∧ Below w.heap.size w w' := by
 have HIs : Hid (∀ X, Below w.heap.size w X → Calls Tryz.prog 26 #[v, .agg #[.int .i64 q.line, .int .i64 q.col]] X fun e X' => e = .returned (.bool (isD d q)) ∧ Below X.heap.size X X') := Lib.hid fun X hX => is_any _ d q X w0 S hv (below_from h0 hX)
 have HY : Hid (mayD d = true → ∀ X, Below w.heap.size w X → Calls Tryz.prog 34 #[v] X fun e X' => ∃ ka kn kc, e = .returned (.tuple #[.agg #[.int .i64 1, .slice none 0 0, .string ⟨#[]⟩, .slice ka kn kc], .int .i64 0]) ∧ Below X.heap.size X X') := Lib.hid fun hm X hX => (host_yes v d X w0 S hv (he.below hX) (below_from h0 hX) hm).mono fun _ _ ⟨k', h1, h2, h3⟩ => by
  obtain ⟨ka, kc, rfl⟩ := h2.slice
  exact ⟨ka, _, kc, h1, h3⟩
 have HN : Hid (mayD d = false → ∀ X, Below w.heap.size w X → Calls Tryz.prog 34 #[v] X fun e X' => e = .returned (.tuple #[.agg #[.int .i64 0, .slice none 0 0, .string ⟨#[]⟩, .slice none 0 0], .int .i64 1]) ∧ Below X.heap.size X X') := Lib.hid fun hm X hX => host_no v d X w0 S hv (he.below hX) (below_from h0 hX) hs hm
 obtain ⟨W1, hW1, hB, hz, hB1, hB2⟩ := pos_point w (.int .i64 q.line) (.int .i64 q.col) (.slice none 0 0) (.int .i64 0)
 have HZ := Lib.hid hz
 have H1 := Lib.hid hB1
 have H2 := Lib.hid hB2
 have HB := Lib.hid hB
 obtain ⟨va, vc, rfl⟩ := hv.slice
 clear hv he h0 hs hB hB1 hB2
 by_cases hmd : mayD d = true
 ·have hi : isD d q = false := by rcases hm with h | h; rw [hmd] at h; cases h; exact h
  have HY := Lib.hid (HY.out hmd)
  rw [hi] at HIs
  clear hm hi HN
  go_enter Tryz.func35, Tryz.ntmps35
  go_wp2_with (first
   | (go_at_call 34; refine (HY.out _ HB.out).mono ?_; rintro e w2 ⟨ka, kn, kc, rfl, hb2⟩; have hx2 := Lib.hid (below_from HB.out hb2); have hA2 := Lib.hid (heap_below hb2 H1.out); have hR2 := Lib.hid (heap_below hb2 H2.out); obtain ⟨q1, g1⟩ := blk hA2.out; obtain ⟨q2, g2⟩ := blk hR2.out; have zz : w.heap.size + 1 < w2.heap.size := Nat.lt_of_lt_of_le HZ.out hb2.size; have zz0 : w.heap.size < w2.heap.size := Nat.lt_of_succ_lt zz; clear hb2)
   | (go_at_call 26; refine (HIs.out _ (hx2.out.alloc hx2.out.size _)).mono ?_; rintro e w3 ⟨rfl, hb3⟩; have hx3 := Lib.hid (below_from (hx2.out.alloc hx2.out.size _) hb3); have hR3 := Lib.hid (heap_below hb3 (heap_old _ _ hR2.out)); obtain ⟨q3, g3⟩ := blk hR3.out; clear hb3))
  refine bodyPost_ret (results_pt rfl _ _ (w.heap.size + 1) (.slice none 0 0) (.int .i64 0) rfl (by simp [heap_set, putIn, hR3.out])) rfl ?_
  exact ⟨rfl, (hx3.out.setCell (Nat.le_succ _) _).setCell (Nat.le_succ _) _⟩
 ·have hmf : mayD d = false := by simpa using hmd
  have HN := Lib.hid (HN.out hmf)
  clear hm hmd hmf HY HIs
  go_enter Tryz.func35, Tryz.ntmps35
  go_wp2_with (first
   | (go_at_call 34; refine (HN.out _ HB.out).mono ?_; rintro e w2 ⟨rfl, hb2⟩; have hx2 := Lib.hid (below_from HB.out hb2); have hA2 := Lib.hid (heap_below hb2 H1.out); have hR2 := Lib.hid (heap_below hb2 H2.out); obtain ⟨q1, g1⟩ := blk hA2.out; obtain ⟨q2, g2⟩ := blk hR2.out; have zz : w.heap.size + 1 < w2.heap.size := Nat.lt_of_lt_of_le HZ.out hb2.size; have zz0 : w.heap.size < w2.heap.size := Nat.lt_of_succ_lt zz; have zne : ¬ (w.heap.size + 1 = w2.heap.size) := Nat.ne_of_lt zz; clear hb2))
  refine bodyPost_ret (results_pt rfl _ _ (w.heap.size + 1) (.slice none 0 0) (.int .i64 0) rfl (heap_old _ _ (by simp [heap_set, putIn, hR2.out]))) rfl ?_
  exact ⟨rfl, ((hx2.out.setCell (Nat.le_succ _) _).setCell (Nat.le_succ _) _).alloc (by have := hx2.out.size; simpa using this) _⟩
set_option maxRecDepth 100000 in
set_option maxHeartbeats 4000000 in
theorem point_yes (v : Value) (d : List Lin) (q : Ps) (w w0 : World) (S : Nat → Prop) (hv : LinsR w0 S v d) (he : EnvT w) (h0 : Below w0.heap.size w0 w) (hm : mayD d = true) (hi : isD d q = true) :
  Calls Tryz.prog 35 #[v, .agg #[.int .i64 q.line, .int .i64 q.col]] w fun e w' => ∃ qa qc, e = .returned (.tuple #[.agg #[.slice qa (pointN d q).1.length qc, .int .i64 (pointN d q).2], .int .i64 0]) ∧ IntsR false w' (fun b => w.heap.size ≤ b) (.slice qa (pointN d q).1.length qc) (pointN d q).1 ∧ Below w.heap.size w w' := by
 obtain ⟨i1, i2, i3, l, hl, i4⟩ := isD_parts hi
 have hok := (ok_of_may hm).2
 have hlok := hok l (List.mem_of_getElem? hl)
 have hpt := point_col hok hl
 have hhl := host_line hok hl
 have hcl : l.cells.length ≤ 4000 := Nat.le_trans (cells_le hl) (may_iffH hm).2
 have hdl := (may_iffH hm).1
 have hwl : (wayL l).length ≤ 12 := by
  have := way_len hlok
  obtain ⟨a1, a2, a3, _⟩ := hlok
  omega
 have htx : txtSz (lineN (gr rowK) l) ≤ 1000000 := by
  unfold lineN
  rw [txtSz]
  have := gr_txt rowK l.cells
  simp only [List.length_nil]
  omega
 have hma : (lineN (gr rowK) l).attrs = [] := rfl
 have HIs : Hid (∀ X, Below w.heap.size w X → Calls Tryz.prog 26 #[v, .agg #[.int .i64 q.line, .int .i64 q.col]] X fun e X' => e = .returned (.bool true) ∧ Below X.heap.size X X') := Lib.hid fun X hX => hi ▸ is_any _ d q X w0 S hv (below_from h0 hX)
 obtain ⟨P, hP⟩ : ∃ P, lastPath ((wayL l).length + 1) 0 (hostL (lineN (gr rowK)) 13 0 (d.take (q.line.toNat + 1))) = P := ⟨_, rfl⟩
 have hPl : P.length ≤ 13 := by rw [← hP, lastPath_len]; omega
 rw [hP] at hpt hhl
 obtain ⟨M, hM⟩ : ∃ M, lineN (gr rowK) l = M := ⟨_, rfl⟩
 rw [hM] at hpt hhl htx hma
 have hG : ∃ G, (hostN d).kids = G ∧ hostN d = .mk 1 [] [] G := ⟨_, rfl, rfl⟩
 obtain ⟨G, hG, hGh⟩ := hG
 have HH : Hid (∀ X, Below w.heap.size w X → Calls Tryz.prog 34 #[v] X fun e X' => ∃ ka kc, e = .returned (.tuple #[.agg #[.int .i64 1, .slice none 0 0, .string ⟨#[]⟩, .slice ka G.length kc], .int .i64 0]) ∧ NodsR true 40 X' (fun b => X.heap.size ≤ b) (.slice ka G.length kc) G ∧ Below X.heap.size X X') := Lib.hid fun X hX => (host_yes v d X w0 S hv (he.below hX) (below_from h0 hX) hm).mono fun _ _ ⟨k', h1, h2, h3⟩ => by
  rw [hG] at h2
  obtain ⟨ka, kc, rfl⟩ := h2.slice
  rw [hGh] at h1
  exact ⟨ka, kc, h1, h2, h3⟩
 have HL : Hid (∀ (w2 w3 : World) (X0 : Nat) ka kc, NodsR true 40 w2 (fun b => X0 ≤ b) (.slice ka G.length kc) G → Below w2.heap.size w2 w3 → w2.heap.size + 1 ≤ w3.heap.size → (w3.alloc (.cells #[.int .i64 q.line, .int .i64 q.col] 98)).heap[w3.heap.size]? = some (.cells #[.int .i64 q.line, .int .i64 q.col] 98) →
   Calls Tryz.prog 60 #[.pointer (some ⟨w3.heap.size, 0, none⟩), .agg #[.int .i64 1, .slice none 0 0, .string ⟨#[]⟩, .slice ka G.length kc], .slice none 0 0] (w3.alloc (.cells #[.int .i64 q.line, .int .i64 q.col] 98)) fun e X' => But w3.heap.size (w3.alloc (.cells #[.int .i64 q.line, .int .i64 q.col] 98)) X' ∧ ∃ qa qc ma mc mka mkc, e = .returned (.tuple #[.slice qa P.length qc, .agg #[.int .i64 M.tag, .slice ma 0 mc, .string ⟨M.text.toArray⟩, .slice mka M.kids.length mkc], .bool true]) ∧
   IntsR false X' (fun b => (w3.alloc (.cells #[.int .i64 q.line, .int .i64 q.col] 98)).heap.size ≤ b) (.slice qa P.length qc) P ∧ AttsR false X' (fun b => b < w3.heap.size) (.slice ma 0 mc) M.attrs ∧ NodsR false 40 X' (fun b => b < w3.heap.size) (.slice mka M.kids.length mkc) M.kids ∧ ∃ j : Int, FinAt w3.heap.size j q.col X') := Lib.hid fun w2 w3 X0 ka kc hk hb hz hf => by
  refine (line_all 40 (.mk 1 [] [] G) _ _ _ [] q.line.toNat w3.heap.size q.col (w3.alloc (.cells #[.int .i64 q.line, .int .i64 q.col] 98)) (fun b => b < w3.heap.size) (SliceR.nil _ _ _ _ _ _) ?_ (fun b hb => ⟨by simp; omega, by omega⟩) (SliceR.nil _ _ _ _ _ _) (by simp) (by omega) (by unfold FinAt; rw [show ((q.line.toNat : Nat) : Int) = q.line by omega]; exact hf)).mono ?_
  ·refine (hk.read fun _ _ g => rdNod_read g).stable (rdNod_stable _ _) (.all (below_from hb ((Below.refl _ _).alloc (Nat.le_refl _) _))) (fun b _ hz => ?_)
   omega
  ·rintro e X' ⟨h1, h2⟩
   rw [← hGh, hhl] at h2
   obtain ⟨qa, qc, ma, mc, mka, mkc, rfl, g1, g2, g3, g4⟩ := h2
   rw [hma] at g2 ⊢
   exact ⟨h1, qa, qc, ma, mc, mka, mkc, rfl, g1, g2, g3, g4⟩
 have HLf : Hid (∀ (W : World) (B : Nat) ma mc mka mkc pa pc (fj : Int), AttsR false W (fun b => b < B) (.slice ma 0 mc) M.attrs → NodsR false 40 W (fun b => b < B) (.slice mka M.kids.length mkc) M.kids → IntsR false W (fun b => B + 1 ≤ b) (.slice pa P.length pc) P → FinAt B fj q.col W →
   Calls Tryz.prog 61 #[.pointer (some ⟨B, 0, none⟩), .agg #[.int .i64 M.tag, .slice ma 0 mc, .string ⟨M.text.toArray⟩, .slice mka M.kids.length mkc], .slice pa P.length pc] W fun e X' => But B W X' ∧ ∃ ra rc bb, e = .returned (.tuple #[.agg #[.slice ra (leafR M P q.col).1.length rc, .int .i64 (leafR M P q.col).2], .bool bb]) ∧ IntsR false X' (fun b => B + 1 ≤ b) (.slice ra (leafR M P q.col).1.length rc) (leafR M P q.col).1 ∧ (leafR M P q.col).1.length ≤ 1000) ∨ q.col = 0 := by
  by_cases hc0 : q.col = 0
  ·exact .inr hc0
  refine .inl (Lib.hid fun W B ma mc mka mkc pa pc fj hA hK hp hf => ?_)
  have hBW : B < W.heap.size := (Array.getElem?_eq_some_iff.1 hf).1
  have hdp : M.deep ≤ 40 := by
   have := nods_deep hK
   have e : M.deep = Nod.deeps M.kids := by cases M; rw [Nod.deep]; rfl
   omega
  refine (leaf_all 40 M _ _ _ P q.col B fj W (fun b => b < B) (fun b => B + 1 ≤ b ∧ b < W.heap.size) hA hK (fun b hb => ⟨Nat.lt_trans hb hBW, Nat.ne_of_lt hb⟩) (hp.stable (rdOf_stable _) (Keeps.refl _ _) (fun b h hz => ⟨h, hz⟩)) (fun b hb => ⟨hb.2, by omega⟩) (by omega) (by omega) (by omega) htx hf).mono ?_
  rintro e X' ⟨h1, h2⟩
  refine ⟨h1, ?_⟩
  cases hr : leafF M P q.col with
  | inl r =>
   obtain ⟨q', t⟩ := r
   have hpl := leafF_path M P q.col _ hr
   have hpl : q'.length ≤ P.length + M.deep := hpl
   have e1 : leafR M P q.col = (q', t) := by unfold leafR; rw [hr]
   rw [hr] at h2
   rw [e1]
   obtain ⟨ra, rc, rfl, g⟩ := h2
   refine ⟨ra, rc, true, rfl, g.stable (rdOf_stable _) (Keeps.refl _ _) (fun b h _ => ?_), by show q'.length ≤ 1000; omega⟩
   rcases h with h | h
   ·exact h.1
   ·show B + 1 ≤ b
    omega
  | inr j =>
   have e1 : leafR M P q.col = ([], 0) := by unfold leafR; rw [hr]
   rw [hr] at h2
   rw [e1]
   obtain ⟨rfl, _⟩ := h2
   exact ⟨none, 0, false, rfl, SliceR.nil _ _ _ _ _ _, by simp⟩
 have HR : Hid (pointN d q = if q.col = 0 then (P, 0) else leafR M P q.col) := Lib.hid hpt
 clear hpt hhl hl hok hlok hwl hM hP hi hm hG hGh
 obtain ⟨W1, hW1, hB, hz, hB1, hB2⟩ := pos_point w (.int .i64 q.line) (.int .i64 q.col) (.slice none 0 0) (.int .i64 0)
 have HZ := Lib.hid hz
 have H1 := Lib.hid hB1
 have H2 := Lib.hid hB2
 have HB := Lib.hid hB
 obtain ⟨va, vc, rfl⟩ := hv.slice
 clear hv he h0 hB hB1 hB2
 by_cases hc0 : q.col = 0
 ·have HR : Hid (pointN d q = (P, 0)) := Lib.hid (HR.out.trans (if_pos hc0))
  have hcb : (q.col == 0) = true := by simp [hc0]
  rw [HR.out]
  clear hc0 HLf
  go_enter Tryz.func35, Tryz.ntmps35
  go_wp2_with (first
   | (go_at_call 34; refine (HH.out _ HB.out).mono ?_; rintro e w2 ⟨ka, kc, rfl, hk2, hb2⟩; have HK2 := Lib.hid hk2; have hx2 := Lib.hid (below_from HB.out hb2); have hA2 := Lib.hid (heap_below hb2 H1.out); have hR2 := Lib.hid (heap_below hb2 H2.out); obtain ⟨q1, g1⟩ := blk hA2.out; obtain ⟨q2, g2⟩ := blk hR2.out; have zz : w.heap.size + 1 < w2.heap.size := Nat.lt_of_lt_of_le HZ.out hb2.size; have zz0 : w.heap.size < w2.heap.size := Nat.lt_of_succ_lt zz; clear hk2 hb2)
   | (go_at_call 26; (refine (HIs.out _ (hx2.out.alloc hx2.out.size _)).mono ?_; rintro e w3 ⟨rfl, hb3⟩; have hx3 := Lib.hid (below_from (hx2.out.alloc hx2.out.size _) hb3); have hR3 := Lib.hid (heap_below hb3 (heap_old _ _ hR2.out)); have hA3 := Lib.hid (heap_below hb3 (heap_old _ _ hA2.out)); have hN3 := Lib.hid (heap_below hb3 (heap_new _ _ rfl)); obtain ⟨q3, g3⟩ := blk hA3.out; obtain ⟨q4, g4⟩ := blk hN3.out; have hx23 := Lib.hid (below_from ((Below.refl w2.heap.size w2).alloc (Nat.le_refl _) _) hb3); have hz3 : w2.heap.size + 1 ≤ w3.heap.size := alloc_le hb3.size; have zw3 : w2.heap.size < w3.heap.size := hz3; have zw0 : w.heap.size < w3.heap.size := (by omega); have zw1 : w.heap.size + 1 < w3.heap.size := (by omega); clear hb3))
   | (go_at_call 60; refine (HL.out _ _ _ _ _ HK2.out hx23.out hz3 (heap_new _ _ rfl)).mono ?_; rintro e w4 ⟨hbt, pa, pc, ma, mc, mka, mkc, rfl, hp4, hma4, hmk4, fj, hf4⟩; have HBT := Lib.hid hbt; have HP4 := Lib.hid hp4; have HMA := Lib.hid hma4; have HMK := Lib.hid hmk4; have HF4 := Lib.hid hf4; have hA4 := Lib.hid (hbt.heap (by omega) (heap_old _ _ hA3.out)); have hR4 := Lib.hid (hbt.heap (by omega) (heap_old _ _ hR3.out)); obtain ⟨q5, g5⟩ := blk hA4.out; obtain ⟨q6, g6⟩ := blk hR4.out; have hz4 : w3.heap.size + 1 ≤ w4.heap.size := alloc_le hbt.size; have zz4 : w.heap.size + 1 < w4.heap.size := (by omega); have zz5 : w.heap.size < w4.heap.size := (by omega); have zne : ¬ (w.heap.size + 1 = w4.heap.size) := (by omega); have zne0 : ¬ (w.heap.size = w4.heap.size) := (by omega); clear hbt hp4 hma4 hmk4 hf4))
  refine bodyPost_ret (results_pt rfl _ _ (w.heap.size + 1) (.slice pa P.length pc) (.int .i64 0) rfl (heap_old _ _ (by simp [heap_set, putIn, hR4.out]))) rfl ?_
  have hx4 : Below w.heap.size w w4 := (hx3.out.alloc hx3.out.size _).trans (HBT.out.below (by simp; omega) (Nat.le_of_lt zw0))
  exact ⟨pa, pc, rfl, HP4.out.stable (rdOf_stable _) ((keeps2 (by simp; omega) _ _).alloc _) (fun b h _ => by (have := alloc_le h; omega)), ((hx4.setCell (Nat.le_succ _) _).setCell (Nat.le_succ _) _).alloc (by have := hx4.size; simpa using this) _⟩
 ·have HLf := HLf.resolve_right hc0
  have HR : Hid (pointN d q = leafR M P q.col) := Lib.hid (HR.out.trans (if_neg hc0))
  have hcb : (q.col == 0) = false := by simp [hc0]
  rw [HR.out]
  clear hc0
  generalize leafR M P q.col = R at *
  obtain ⟨R1, R2⟩ := R
  have HCl : Hid (∀ (w6 : World) W ra rc, (IntsR false w6 (fun _ => True) (.slice ra R1.length rc) R1 ∧ R1.length ≤ 1000) → Below w6.heap.size w6 W → Calls Tryz.prog 62 #[.slice ra R1.length rc] W fun e w' => ∃ va vc, e = .returned (.slice va R1.length vc) ∧ IntsR true w' (fun b => W.heap.size ≤ b) (.slice va R1.length vc) R1 ∧ Below W.heap.size W w') := Lib.hid fun w6 W ra rc hr hW => by
   refine (cloneInt_any _ R1 false W w6 _ hr.1 hW (by omega)).mono ?_
   rintro e w' ⟨v', h1, h2, h3⟩
   obtain ⟨va, vc, rfl⟩ := h2.slice
   exact ⟨va, vc, h1, h2, h3⟩
  go_enter Tryz.func35, Tryz.ntmps35
  go_wp2_with (first
   | (go_at_call 34; refine (HH.out _ HB.out).mono ?_; rintro e w2 ⟨ka, kc, rfl, hk2, hb2⟩; have HK2 := Lib.hid hk2; have hx2 := Lib.hid (below_from HB.out hb2); have hA2 := Lib.hid (heap_below hb2 H1.out); have hR2 := Lib.hid (heap_below hb2 H2.out); obtain ⟨q1, g1⟩ := blk hA2.out; obtain ⟨q2, g2⟩ := blk hR2.out; have zz : w.heap.size + 1 < w2.heap.size := Nat.lt_of_lt_of_le HZ.out hb2.size; have zz0 : w.heap.size < w2.heap.size := Nat.lt_of_succ_lt zz; clear hk2 hb2)
   | (go_at_call 26; (refine (HIs.out _ (hx2.out.alloc hx2.out.size _)).mono ?_; rintro e w3 ⟨rfl, hb3⟩; have hx3 := Lib.hid (below_from (hx2.out.alloc hx2.out.size _) hb3); have hR3 := Lib.hid (heap_below hb3 (heap_old _ _ hR2.out)); have hA3 := Lib.hid (heap_below hb3 (heap_old _ _ hA2.out)); have hN3 := Lib.hid (heap_below hb3 (heap_new _ _ rfl)); obtain ⟨q3, g3⟩ := blk hA3.out; obtain ⟨q4, g4⟩ := blk hN3.out; have hx23 := Lib.hid (below_from ((Below.refl w2.heap.size w2).alloc (Nat.le_refl _) _) hb3); have hz3 : w2.heap.size + 1 ≤ w3.heap.size := alloc_le hb3.size; have zw3 : w2.heap.size < w3.heap.size := hz3; have zw0 : w.heap.size < w3.heap.size := (by omega); have zw1 : w.heap.size + 1 < w3.heap.size := (by omega); clear hb3))
   | (go_at_call 60; refine (HL.out _ _ _ _ _ HK2.out hx23.out hz3 (heap_new _ _ rfl)).mono ?_; rintro e w4 ⟨hbt, pa, pc, ma, mc, mka, mkc, rfl, hp4, hma4, hmk4, fj, hf4⟩; have HBT := Lib.hid hbt; have HP4 := Lib.hid hp4; have HMA := Lib.hid hma4; have HMK := Lib.hid hmk4; have HF4 := Lib.hid hf4; have hA4 := Lib.hid (hbt.heap (by omega) (heap_old _ _ hA3.out)); have hR4 := Lib.hid (hbt.heap (by omega) (heap_old _ _ hR3.out)); obtain ⟨q5, g5⟩ := blk hA4.out; obtain ⟨q6, g6⟩ := blk hR4.out; have hz4 : w3.heap.size + 1 ≤ w4.heap.size := alloc_le hbt.size; have zz4 : w.heap.size + 1 < w4.heap.size := (by omega); have zz5 : w.heap.size < w4.heap.size := (by omega); have zne : ¬ (w.heap.size + 1 = w4.heap.size) := (by omega); have zne0 : ¬ (w.heap.size = w4.heap.size) := (by omega); clear hbt hp4 hma4 hmk4 hf4)
   | (go_at_call 61; refine (HLf.out _ w3.heap.size ma mc mka mkc pa pc fj (HMA.out.stable (rdOf_stable _) (.all ((Below.refl _ _).alloc (Nat.le_refl _) _)) (fun _ h _ => h)) (HMK.out.stable (rdNod_stable _ _) (.all ((Below.refl _ _).alloc (Nat.le_refl _) _)) (fun _ h _ => h)) (HP4.out.stable (rdOf_stable _) (.all ((Below.refl _ _).alloc (Nat.le_refl _) _)) (fun b h _ => alloc_le h)) (heap_old _ _ HF4.out)).mono ?_; rintro e w6 ⟨hbt6, ra, rc, bb, rfl, hr6⟩; have HBT6 := Lib.hid hbt6; have HR6 := Lib.hid hr6; have hR6 := Lib.hid (hbt6.heap (by omega) (heap_old _ _ hR4.out)); obtain ⟨q7, g7⟩ := blk hR6.out; have hz6 : w4.heap.size + 1 ≤ w6.heap.size := alloc_le hbt6.size; have zz6 : w.heap.size + 1 < w6.heap.size := (by omega); have zne6 : ¬ (w.heap.size + 1 = w6.heap.size) := (by omega); clear hbt6 hr6)
   | (go_at_call 62; refine (HCl.out _ _ ra rc ⟨HR6.out.1.stable (rdOf_stable _) (Keeps.refl _ _) (fun _ _ _ => trivial), HR6.out.2⟩ ((Below.refl _ _).alloc (Nat.le_refl _) _)).mono ?_; rintro e w7 ⟨na, nc, rfl, hn7, hb7⟩; have HN7 := Lib.hid hn7; have hP7 := Lib.hid (heap_below hb7 (heap_new _ _ rfl)); obtain ⟨q8, g8⟩ := blk hP7.out; have hR7 := Lib.hid (heap_below hb7 (heap_old _ _ hR6.out)); obtain ⟨q9, g9⟩ := blk hR7.out; have hx67 := Lib.hid (below_from ((Below.refl w6.heap.size w6).alloc (Nat.le_refl _) _) hb7); have hz7 : w6.heap.size + 1 ≤ w7.heap.size := alloc_le hb7.size; clear hn7 hb7))
  have hne : ¬ (w6.heap.size = w.heap.size + 1) := by omega
  refine bodyPost_ret (results_pt rfl _ _ (w.heap.size + 1) (.slice na R1.length nc) (.int .i64 R2) rfl (by simp [heap_set, putIn, hR7.out, hne])) rfl ?_
  have hx4 : Below w.heap.size w w4 := (hx3.out.alloc hx3.out.size _).trans (HBT.out.below (by simp; omega) (Nat.le_of_lt zw0))
  have hx6 : Below w.heap.size w w6 := (hx4.alloc hx4.size _).trans (HBT6.out.below (by simp; omega) (Nat.le_of_lt zw0))
  have hx7 : Below w.heap.size w w7 := below_from hx6 hx67.out
  have hN7 : IntsR false w7 (fun b => w6.heap.size + 1 ≤ b) (.slice na R1.length nc) R1 := (HN7.out.read fun _ _ h => h).stable (rdOf_stable _) (Keeps.refl _ _) (fun b h _ => alloc_le h)
  exact ⟨na, nc, rfl, hN7.stable (rdOf_stable _) ((((Keeps.refl _ _).set (by simp) _).set (by simp; omega) _).set (by simp; omega) _) (fun b h _ => by omega), ((hx7.setCell (by show _ ≤ w6.heap.size; omega) _).setCell (Nat.le_succ _) _).setCell (Nat.le_succ _) _⟩
end Go.Proofs.YtjpgffihafknlaaGreatDoor
namespace Go.Proofs.Qw
open Go.RowKit
def exD : List Lin := [⟨0, [], 0, []⟩, ⟨0, [], 0, [⟨97, 0, []⟩, ⟨98, 1, []⟩, ⟨99, 3, []⟩, ⟨10, 1, []⟩]⟩]
def exL : List Lin := [⟨0, [0], 0, []⟩, ⟨0, [0, 1], 0, []⟩]
theorem exD_host : hostN exD = .mk 1 [] [] [.mk 2 [] [] [], .mk 2 [] [] [txtN [97], .mk 11 [] [] [txtN [98], .mk 12 [] [] [txtN [99]], brN]]] := by decide +kernel
theorem exL_host : hostN exL = .mk 1 [] [] [.mk 7 [] [] [.mk 9 [] [] [], .mk 8 [] [] [.mk 9 [] [] []]]] := by decide +kernel
theorem exD_point : pointN exD ⟨1, 4⟩ = ([1, 1], 3) := by decide +kernel
theorem exD_may : mayD exD = true ∧ mayD exL = true := by decide +kernel
end Go.Proofs.Qw
