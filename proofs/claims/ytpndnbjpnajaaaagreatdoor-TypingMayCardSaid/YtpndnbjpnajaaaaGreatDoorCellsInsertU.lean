/- The link at hand of a state: styling.Href. -/
import Derived.Test.YtpndnbjpnajaaaaGreatDoorStyBitsU
import Derived.Test.YtpndnbjpnajaaaaGreatDoorDocPartU
import Derived.Test.YtpndnbjpnajaaaaGreatDoorDocEachU
import Derived.Test.YtpndnbjpnajaaaaGreatDoorOpenMoreU
import Derived.Test.YtpndnbjpnajaaaaGreatDoorDocDeleteU
set_option linter.unusedVariables false
set_option linter.unusedSimpArgs false
namespace Go.Proofs.Qw
open Go.RowKit Go.Proofs.YtpndnbjpnajaaaaGreatDoor
theorem hrefL_cons (c : Cel) (l : List Cel) : hrefL (c :: l) = if ((c :: l).any fun x => !decide (x.href = c.href)) = true then [] else c.href := by
 have h : ((c :: l).any fun x => !decide (x.href = c.href)) = !(l.all fun x => decide (x.href = c.href)) := by
  rw [List.any_cons, List.all_eq_not_any_not]
  simp
 rw [h]
 show (if l.all (fun x => decide (x.href = c.href)) = true then c.href else []) = _
 cases l.all (fun x => decide (x.href = c.href)) <;> rfl
end Go.Proofs.Qw
namespace Go.Proofs.YtpndnbjpnajaaaaGreatDoor
open Go.RowKit
open Go.Proofs.Qw
theorem href_neq (a b : List UInt8) : (a != b) = !decide (a = b) := by
 by_cases h : a = b
 ·subst h; simp
 ·rw [decide_eq_false h]; simpa using h
set_option maxHeartbeats 1000000 in
theorem styHref1_any (B : Nat) (v : Value) (c : Cel) (l : List Cel) (x : Cel) (w : World) (S : Nat → Prop) (h : CelsR false w S v (c :: l)) (hB : w.heap[B]? = some (.cells #[v] 40)) :
  Calls Tryz.prog 87 #[celV x, .pointer (some ⟨B, 0, none⟩)] w fun e w' => e = .returned (.bool (!decide (x.href = c.href))) ∧ Below w.heap.size w w' := by
 have hlt := (Array.getElem?_eq_some_iff.1 hB).1
 obtain ⟨a, cc, rfl, hcc, hm, hx⟩ := cels_shape h
 obtain ⟨b, o, rfl, hz, c0, c1, c2⟩ := hx 0 c rfl
 have c2' := c2
 rw [Nat.zero_mul, Nat.add_zero] at c2'
 have p2 : ∀ ob, (w.alloc ob).cell? ⟨B, 0, none⟩ = some (.slice (some ⟨b, o, none⟩) (c :: l).length cc) := fun ob => on1 hB ob 0
 have p3 : ∀ ob, (w.alloc ob).cell? ⟨b, o + 2, none⟩ = some (.string ⟨c.href.toArray⟩) := fun ob => (World.cell?_of_block (heap_alloc_old _ _ hz)).trans c2'
 have ne : ¬ B = w.heap.size := by omega
 have ne2 : ¬ b = w.heap.size := by omega
 have HQ := Lib.hid (href_neq x.href c.href)
 unfold maxLen at hm
 obtain ⟨n, hn⟩ : ∃ n, (c :: l).length = n := ⟨_, rfl⟩
 have n0 : (0 : Int) < (n : Int) := by rw [← hn]; simp
 rw [hn] at p2 hcc
 clear hn h hx c0 c1 c2 hB
 unfold celV
 go_enter Tryz.func87, Tryz.ntmps87
 go_wp2_with fail
 go_region
 go_wp2_with fail
 go_ret
 rw [← HQ.out]
 exact ⟨rfl, by (repeat' (first | (with_reducible exact Below.refl _ _) | (with_reducible assumption) | (with_reducible refine Below.alloc ?_ ?_ _) | (with_reducible refine Below.drew ?_) | (with_reducible refine drewN_below ?_) | (with_reducible refine Below.setCell ?_ ?_ _) | go_size))⟩
set_option maxRecDepth 100000 in
set_option maxHeartbeats 4000000 in
theorem styHref_any (v : Value) (s : St) (w : World) (S : Nat → Prop) (h : LinsR w S v s.lines) (he : EnvT w) (hs : Small s.lines) (hf : Fits s.lines) :
  Calls Tryz.prog 25 #[stV v s] w fun e w' => e = .returned (.string ⟨(hrefS s).toArray⟩) ∧ Below w.heap.size w w' := by
 obtain ⟨W1, hW1, hB, hz, k0⟩ := one_st w v s
 have HB : Hid (∀ W, Below W1.heap.size W1 W → W.heap[w.heap.size]? = some (.cells #[v, .int .i64 s.anc.line, .int .i64 s.anc.col, .int .i64 s.foc.line, .int .i64 s.foc.col, .int .i64 s.on, .int .i64 s.off] 26)) := Lib.hid fun W hW => heap_below hW k0
 have hs1 := hB.size
 have H1 := Lib.hid hB
 have hw0 : Below W1.heap.size W1 W1 := Below.refl _ _
 have HV : Hid (∀ W, Below W1.heap.size W1 W → LinsR W S v s.lines) := Lib.hid fun W hW => h.below (rdLin_stable _) (hB.trans (hW.mono hs1))
 have HE : Hid (∀ W, Below W1.heap.size W1 W → EnvT W) := Lib.hid fun W hW => (he.below hB).below hW
 have HM : Hid (∀ W, Below W1.heap.size W1 W → Calls Tryz.prog 27 #[stV v s] W fun e w' => e = .returned (.bool (mayS s)) ∧ Below W.heap.size W w') := Lib.hid fun W hW => stMay_any v s W S (HV.out W hW) (HE.out W hW) hs
 have HR : Hid (hrefS s = if mayS s = true then hrefL (cellsD s.lines (handS s).1 (handS s).2) else []) := Lib.hid rfl
 have HVF := Lib.hid (And.intro hs hf)
 cases hm : mayS s
 ·rw [hm] at HM HR
  have HR : Hid (hrefS s = []) := Lib.hid (HR.out.trans (if_neg (by simp)))
  obtain ⟨p0, f0⟩ := blk k0
  obtain ⟨va, vc, rfl⟩ := h.slice
  clear h he hs hf k0 hB hm
  go_enter Tryz.func25, Tryz.ntmps25
  go_wp2_with ((go_at_call 27; refine (HM.out _ hw0).mono ?_; rintro e w2 ⟨rfl, hst2⟩; have hb2 := below_from hw0 hst2; skip))
  go_ret
  rw [HR.out]
  exact ⟨rfl, H1.out.trans (hb2.mono hs1)⟩
 ·have hA := (mayS_at hm).2.1
  rw [hm] at HM HR
  rw [if_pos rfl] at HR
  have HH : Hid (∀ W, Below W1.heap.size W1 W → Calls Tryz.prog 84 #[stV v s] W fun e w' => e = .returned (.tuple #[.agg #[.int .i64 (handS s).1.line, .int .i64 (handS s).1.col], .agg #[.int .i64 (handS s).2.line, .int .i64 (handS s).2.col]]) ∧ Below W.heap.size W w') := Lib.hid fun W hW => styHand_any v s W S (HV.out W hW) hf hA
  obtain ⟨A, B, hAB⟩ : ∃ A B, handS s = (A, B) := ⟨_, _, rfl⟩
  rw [hAB] at HH HR
  simp only at HH HR
  have HL : Hid ((cellsD s.lines A B).length ≤ 100000) := Lib.hid (Nat.le_trans (cellsD_size _ _ _) hs.1)
  obtain ⟨p0, f0⟩ := blk k0
  obtain ⟨va, vc, rfl⟩ := h.slice
  clear h he hs hf hm hA hAB k0 hB
  go_enter Tryz.func25, Tryz.ntmps25
  go_wp2_with (first
   | (go_at_call 27; refine (HM.out _ hw0).mono ?_; rintro e w2 ⟨rfl, hst2⟩; have hb2 := below_from hw0 hst2; obtain ⟨q0, g0⟩ := blk (HB.out _ hb2))
   | (go_at_call 84; refine (HH.out _ hb2).mono ?_; rintro e w3 ⟨rfl, hst3⟩; have hb3 := below_from hb2 hst3; obtain ⟨q1, g1⟩ := blk (HB.out _ hb3); have hz3 := hb3.size; have e3 : ¬ w3.heap.size = w.heap.size := (by omega); have r1 := on2 (HB.out _ hb3))
   | (go_at_call 77; refine (selected_any _ _ _ A B _).mono ?_; rintro e w5 ⟨rfl, rfl⟩))
  obtain ⟨w6, hw6⟩ : ∃ w6, ((((w3.alloc (.cells #[.int .i64 A.line, .int .i64 A.col] 24)).alloc (.cells #[.int .i64 B.line, .int .i64 B.col] 24)).alloc (.cells #[.slice va s.lines.length vc] 22)).alloc (.cells #[.int .i64 A.line, .int .i64 A.col] 24)).alloc (.cells #[.int .i64 B.line, .int .i64 B.col] 24) = w6 := ⟨_, rfl⟩
  rw [hw6]
  have hb36 : Below w3.heap.size w3 w6 := hw6 ▸ below3 (below2 (Below.refl _ _) _ _) _ _ _
  have hz6 : w6.heap.size = w3.heap.size + 5 := by rw [← hw6]; simp
  have m2 : w6.heap[w3.heap.size + 1 + 1]? = some (.cells #[.slice va s.lines.length vc] 22) := hw6 ▸ heap_old _ _ (heap_old _ _ (heap_new _ _ (by simp)))
  have m3 : w6.heap[w3.heap.size + 1 + 1 + 1]? = some (.cells #[.int .i64 A.line, .int .i64 A.col] 24) := hw6 ▸ heap_old _ _ (heap_new _ _ (by simp))
  have m4 : w6.heap[w3.heap.size + 1 + 1 + 2]? = some (.cells #[.int .i64 B.line, .int .i64 B.col] 24) := hw6 ▸ heap_new _ _ (by simp)
  have hb6 := below_from hb3 hb36
  have HCo := Lib.hid (collect_any (w3.heap.size + 1 + 1) (w3.heap.size + 1 + 1 + 1) (w3.heap.size + 1 + 1 + 2) _ s.lines A B w6 S (HV.out _ hb6) (HE.out _ hb6) HVF.out.1 HVF.out.2 m2 m3 m4)
  clear m2 m3 m4 hw6 q0 g0 q1 g1 r1 p0 f0 hW1
  have HL9 := HL.out
  generalize cellsD s.lines A B = L at *
  cases L with
  | nil =>
   go_wp2_with (go_at_call 85; refine HCo.out.mono ?_; intro e w7 hcc; obtain ⟨v7, rfl, hv7, hb7⟩ := hcc; obtain ⟨a7, c7, rfl⟩ := hv7.slice; clear hv7)
   go_ret
   rw [HR.out]
   exact ⟨rfl, H1.out.trans ((below1 (below_from hb6 hb7) _).mono hs1)⟩
  | cons c l =>
   rw [hrefL_cons] at HR
   obtain ⟨n, hn⟩ : ∃ n, (c :: l).length = n := ⟨_, rfl⟩
   have hn0 : ((n : Int) == 0) = false := by rw [← hn]; simp; omega
   have n0 : (0 : Int) < (n : Int) := by rw [← hn]; simp
   have HN := Lib.hid hn
   rw [hn] at HL9
   clear hn
   obtain ⟨r, hr⟩ : ∃ r, ((c :: l).any fun x => !decide (x.href = c.href)) = r := ⟨_, rfl⟩
   rw [hr] at HR
   have HAn := Lib.hid hr
   clear hr
   go_wp2_with (go_at_call 85; refine HCo.out.mono ?_; intro e w7 hcc; obtain ⟨v7, rfl, hv7, hb7⟩ := hcc; obtain ⟨a7, c7, hve⟩ := hv7.slice; rw [HN.out] at hve; subst hve; have HV7 := Lib.hid hv7; clear hv7)
   have hb7' := below_from hb6 hb7
   obtain ⟨a8, c8, hve, hcc8, hmm8, hx8⟩ := SliceR.shape_own HV7.out
   rw [HN.out] at hve
   cases hve
   obtain ⟨b8, o8, vs8, cs8, rfl, hz8, hS8, _, _, _, hvs8, he8⟩ := hx8 0 c rfl
   cases hvs8
   have d2 := he8 2 _ rfl
   rw [Nat.zero_mul, Nat.add_zero] at d2
   have H8 : ∀ X, Below w7.heap.size w7 (w7.alloc X) := fun X => below1 (Below.refl _ _) X
   obtain ⟨w8, hw8⟩ : ∃ w8, w7.alloc (.cells #[.slice (some ⟨b8, o8, none⟩) n c7] 40) = w8 := ⟨_, rfl⟩
   rw [hw8]
   have hb78 : Below w7.heap.size w7 w8 := hw8 ▸ H8 _
   have hb8 := below_from hb7' hb78
   have m8 : w8.heap[w7.heap.size]? = some (.cells #[.slice (some ⟨b8, o8, none⟩) n c7] 40) := hw8 ▸ heap_new _ _ rfl
   have HB8 : Hid (∀ W, Below w8.heap.size w8 W → W.heap[w7.heap.size]? = some (.cells #[.slice (some ⟨b8, o8, none⟩) n c7] 40)) := Lib.hid fun W hW => heap_below hW m8
   have HR8 : Hid (CelsR false w8 (fun b => w6.heap.size ≤ b) (.slice (some ⟨b8, o8, none⟩) n c7) (c :: l)) := Lib.hid (SliceR.below (rdOf_stable _) (SliceR.read (fun _ _ h => h) HV7.out) hb78)
   have HCn := Lib.hid (containsCell_any _ (c :: l) (fun x => !decide (x.href = c.href)) 87 #[.pointer (some ⟨w7.heap.size, 0, none⟩)] (enters_of Tryz.func87 (by kernel_rfl) rfl) w8 w8 _ HR8.out (HE.out _ hb8) (Below.refl _ _) (fun i x W _ _ hW _ => styHref1_any _ _ c l x W _ (SliceR.below (rdOf_stable _) HR8.out hW) (HB8.out W hW)))
   rw [HAn.out] at HCn
   have d2' : ∀ W, Below w8.heap.size w8 W → W.cell? ⟨b8, o8 + 2, none⟩ = some (.string ⟨c.href.toArray⟩) := fun W hW => ((below_from hb78 hW).cell (p := ⟨b8, o8 + 2, none⟩) hz8).trans d2
   have HD := Lib.hid d2'
   obtain ⟨q8, g8⟩ := blk m8
   clear hx8 he8 d2 d2' H8 hw8 m8
   go_wp2_with (go_at_call 86; refine HCn.out.mono ?_; rintro e w9 ⟨rfl, hb9⟩; obtain ⟨q9, g9⟩ := blk (HB8.out _ hb9); have d9 := HD.out _ hb9; cases r)
   ·go_ret
    rw [HR.out]
    exact ⟨rfl, H1.out.trans ((below_from hb8 hb9).mono hs1)⟩
   ·go_ret
    rw [HR.out]
    exact ⟨rfl, H1.out.trans ((below_from hb8 hb9).mono hs1)⟩
end Go.Proofs.YtpndnbjpnajaaaaGreatDoor
namespace Go.Proofs.YtpndnbjpnajaaaaGreatDoor
open Go.RowKit
open Go.Proofs.Qw
theorem results_st_e {fn : Func} {p u : Tmp} (h : fn.results = #[.cell p 26, .tmp u]) (tmps : Array Value) (w : World) (B : Nat) (a b c d e f g x : Value) (hp : tmps.getD p undef = .pointer (some ⟨B, 0, none⟩)) (hu : tmps.getD u undef = x) (hg : w.heap[B]? = some (.cells #[a, b, c, d, e, f, g] 26)) :
  (results fn tmps).run Tryz.prog w = .ok (.tuple #[.agg #[a, b, c, d, e, f, g], x]) w := by
 have hp' : tmps[p]?.getD undef = .pointer (some ⟨B, 0, none⟩) := by simpa using hp
 have hu' : tmps[u]?.getD undef = x := by simpa using hu
 have e1 := run_loadVar_row (P := Tryz.prog) w B 26 26 _ _ _ hg Tryz.underlying26 rfl (by kernel_rfl)
 simp [results, h, hp', hu', asAddr, e1]
set_option maxRecDepth 100000 in
set_option maxHeartbeats 4000000 in
theorem styChanged_any (v : Value) (s : St) (g : Nat) (lb : Array Value) (R : Doc × Int) (w : World) (S : Nat → Prop) (h : LinsR w S v s.lines) (he : EnvT w) (hs : Small s.lines)
  (eg : ∀ args w, (callFunc g args).run Tryz.prog w = .ok (.enter g args) w)
  (hg : mayS s = true → ∀ W, Below w.heap.size w W → Calls Tryz.prog g (#[v, posV (spanS s).1, posV (spanS s).2] ++ lb) W (DocSaid R W)) :
  Calls Tryz.prog 95 #[stV v s, .func (.func g) #[] lb] w (StSaid (changedS s R) w) := by
 obtain ⟨W1, hW1, hB, hz, k0, k1⟩ := st_two w v s
 have HB : Hid (∀ W, Below W1.heap.size W1 W → W.heap[w.heap.size]? = some (.cells #[v, .int .i64 s.anc.line, .int .i64 s.anc.col, .int .i64 s.foc.line, .int .i64 s.foc.col, .int .i64 s.on, .int .i64 s.off] 26) ∧ W.heap[w.heap.size + 1]? = some (.cells #[.slice none 0 0, .int .i64 0, .int .i64 0, .int .i64 0, .int .i64 0, .int .i64 0, .int .i64 0] 26)) := Lib.hid fun W hW => ⟨heap_below hW k0, heap_below hW k1⟩
 have hs1 := hB.size
 have H1 := Lib.hid hB
 have hw0 : Below W1.heap.size W1 W1 := Below.refl _ _
 have HV : Hid (∀ W, Below W1.heap.size W1 W → LinsR W S v s.lines) := Lib.hid fun W hW => h.below (rdLin_stable _) (hB.trans (hW.mono hs1))
 have HE : Hid (∀ W, Below W1.heap.size W1 W → EnvT W) := Lib.hid fun W hW => (he.below hB).below hW
 have HM : Hid (∀ W, Below W1.heap.size W1 W → Calls Tryz.prog 27 #[stV v s] W fun e w' => e = .returned (.bool (mayS s)) ∧ Below W.heap.size W w') := Lib.hid fun W hW => stMay_any v s W S (HV.out W hW) (HE.out W hW) hs
 have HR : Hid (changedS s R = if mayS s = true then staysS s R else (noS, 1)) := Lib.hid rfl
 cases hm : mayS s
 ·rw [hm] at HM HR
  have HR : Hid (changedS s R = (noS, 1)) := Lib.hid (HR.out.trans (if_neg (by simp)))
  obtain ⟨p0, f0⟩ := blk k0
  obtain ⟨p1, f1⟩ := blk k1
  obtain ⟨va, vc, rfl⟩ := h.slice
  clear h he hs hg k0 k1 hB hm
  go_enter Tryz.func95, Tryz.ntmps95
  go_wp2_with ((go_at_call 27; refine (HM.out _ hw0).mono ?_; rintro e w2 ⟨rfl, hst2⟩; have hb2 := below_from hw0 hst2; obtain ⟨q1, g1⟩ := blk (HB.out _ hb2).2))
  refine bodyPost_ret (results_st_e rfl _ _ (w.heap.size + 1) (.slice none 0 0) (.int .i64 0) (.int .i64 0) (.int .i64 0) (.int .i64 0) (.int .i64 0) (.int .i64 0) (.int .i64 1) rfl rfl (by simp [heap_set, putIn, (HB.out _ hb2).2])) rfl ?_
  unfold StSaid
  rw [HR.out]
  have hfin := H1.out.trans (hb2.mono hs1)
  exact ⟨_, rfl, SliceR.nil _ _ _ _ _ _, by (repeat' (first | (with_reducible exact Below.refl _ _) | (with_reducible assumption) | (with_reducible refine Below.alloc ?_ ?_ _) | (with_reducible refine Below.drew ?_) | (with_reducible refine drewN_below ?_) | (with_reducible refine Below.setCell ?_ ?_ _) | go_size))⟩
 ·have HG : Hid (∀ W, Below W1.heap.size W1 W → Calls Tryz.prog g (#[v, posV (spanS s).1, posV (spanS s).2] ++ lb) W (DocSaid R W)) := Lib.hid fun W hW => hg hm W (hB.trans (hW.mono hs1))
  rw [hm] at HM HR
  rw [if_pos rfl] at HR
  have HR : Hid (changedS s R = if R.2 = 0 then (⟨R.1, s.anc, s.foc, 0, 0⟩, 0) else (noS, R.2)) := Lib.hid HR.out
  have HSp : Hid (∀ W, Below W1.heap.size W1 W → Calls Tryz.prog 28 #[stV v s] W fun e w' => e = .returned (.tuple #[.agg #[.int .i64 (spanS s).1.line, .int .i64 (spanS s).1.col], .agg #[.int .i64 (spanS s).2.line, .int .i64 (spanS s).2.col]]) ∧ Below W.heap.size W w') := Lib.hid fun W hW => stSpan_any v s W
  obtain ⟨A, B, hAB⟩ : ∃ A B, spanS s = (A, B) := ⟨_, _, rfl⟩
  rw [hAB] at HSp HG
  simp only at HSp HG
  obtain ⟨D, er, hD⟩ : ∃ D er, R = (D, er) := ⟨_, _, rfl⟩
  subst hD
  have HP : Hid (∀ p : Ps, posV p = .agg #[.int .i64 p.line, .int .i64 p.col]) := Lib.hid fun _ => rfl
  rw [HP.out, HP.out] at HG
  obtain ⟨p0, f0⟩ := blk k0
  obtain ⟨p1, f1⟩ := blk k1
  obtain ⟨va, vc, rfl⟩ := h.slice
  clear h he hs hg k0 k1 hB hm hAB
  by_cases h0 : er = 0
  ·subst h0
   have HR := Lib.hid (HR.out.trans (if_pos rfl))
   go_enter Tryz.func95, Tryz.ntmps95
   go_wp2_with (first
    | (go_at_call 27; refine (HM.out _ hw0).mono ?_; rintro e w2 ⟨rfl, hst2⟩; have hb2 := below_from hw0 hst2; obtain ⟨q0, g0⟩ := blk (HB.out _ hb2).1)
    | (go_at_call 28; refine (HSp.out _ hb2).mono ?_; rintro e w3 ⟨rfl, hst3⟩; have hb3 := below_from hb2 hst3; obtain ⟨q1, g1⟩ := blk (HB.out _ hb3).1; have hz3 := hb3.size; have e3 : ¬ w3.heap.size = w.heap.size := (by omega); have r1 := on2 (HB.out _ hb3).1; have HX3 : Hid (∀ X Y, Below W1.heap.size W1 ((w3.alloc X).alloc Y)) := Lib.hid fun X Y => hb3.trans (below2 (Below.refl _ _) X Y |>.mono hz3))
    | (go_at_fn g; refine (HG.out _ (HX3.out _ _)).mono ?_; intro e w4 hsaid; obtain ⟨v4, rfl, hv4, hst4⟩ := hsaid; obtain ⟨a4, c4, rfl⟩ := hv4.slice; have hb4 := below_from (HX3.out _ _) hst4; have HV4 := Lib.hid hv4; clear hv4; obtain ⟨q2, g2⟩ := blk (HB.out _ hb4).1; obtain ⟨q3, g3⟩ := blk (HB.out _ hb4).2))
   refine bodyPost_ret (results_st_e rfl _ _ (w.heap.size + 1) (.slice a4 D.length c4) (.int .i64 s.anc.line) (.int .i64 s.anc.col) (.int .i64 s.foc.line) (.int .i64 s.foc.col) (.int .i64 0) (.int .i64 0) (.int .i64 0) rfl rfl (by simp [heap_set, putIn, (HB.out _ hb4).2])) rfl ?_
   unfold StSaid
   rw [HR.out]
   have hfin := H1.out.trans (hb4.mono hs1)
   have hv4 := HV4.out
   exact ⟨_, rfl, (SliceR.stable (rdLin_stable _) hv4 (by (repeat' (first | (with_reducible exact Keeps.refl _ _) | (with_reducible refine Keeps.set ?_ ?_ _) | (with_reducible refine Keeps.alloc ?_ _) | (with_reducible refine Keeps.drew ?_) | (first | fail) | (simp; omega)))) (fun b h _ => (by have h' := h; (try simp at h'); omega))), by (repeat' (first | (with_reducible exact Below.refl _ _) | (with_reducible assumption) | (with_reducible refine Below.alloc ?_ ?_ _) | (with_reducible refine Below.drew ?_) | (with_reducible refine drewN_below ?_) | (with_reducible refine Below.setCell ?_ ?_ _) | go_size))⟩
  ·have HR2 : Hid (changedS s (D, er) = (noS, er)) := Lib.hid (HR.out.trans (if_neg h0))
   have hne : (er != 0) = true := by simpa using h0
   have hne2 : (er == 0) = false := by simpa using h0
   clear h0 HR
   go_enter Tryz.func95, Tryz.ntmps95
   go_wp2_with (first
    | (go_at_call 27; refine (HM.out _ hw0).mono ?_; rintro e w2 ⟨rfl, hst2⟩; have hb2 := below_from hw0 hst2; obtain ⟨q0, g0⟩ := blk (HB.out _ hb2).1)
    | (go_at_call 28; refine (HSp.out _ hb2).mono ?_; rintro e w3 ⟨rfl, hst3⟩; have hb3 := below_from hb2 hst3; obtain ⟨q1, g1⟩ := blk (HB.out _ hb3).1; have hz3 := hb3.size; have e3 : ¬ w3.heap.size = w.heap.size := (by omega); have r1 := on2 (HB.out _ hb3).1; have HX3 : Hid (∀ X Y, Below W1.heap.size W1 ((w3.alloc X).alloc Y)) := Lib.hid fun X Y => hb3.trans (below2 (Below.refl _ _) X Y |>.mono hz3))
    | (go_at_fn g; refine (HG.out _ (HX3.out _ _)).mono ?_; intro e w4 hsaid; obtain ⟨v4, rfl, hv4, hst4⟩ := hsaid; obtain ⟨a4, c4, rfl⟩ := hv4.slice; have hb4 := below_from (HX3.out _ _) hst4; have HV4 := Lib.hid hv4; clear hv4; obtain ⟨q2, g2⟩ := blk (HB.out _ hb4).1; obtain ⟨q3, g3⟩ := blk (HB.out _ hb4).2))
   refine bodyPost_ret (results_st_e rfl _ _ (w.heap.size + 1) (.slice none 0 0) (.int .i64 0) (.int .i64 0) (.int .i64 0) (.int .i64 0) (.int .i64 0) (.int .i64 0) (.int .i64 er) rfl rfl (by simp [heap_set, putIn, (HB.out _ hb4).2])) rfl ?_
   unfold StSaid
   rw [HR2.out]
   have hfin := H1.out.trans (hb4.mono hs1)
   exact ⟨_, rfl, SliceR.nil _ _ _ _ _ _, by (repeat' (first | (with_reducible exact Below.refl _ _) | (with_reducible assumption) | (with_reducible refine Below.alloc ?_ ?_ _) | (with_reducible refine Below.drew ?_) | (with_reducible refine drewN_below ?_) | (with_reducible refine Below.setCell ?_ ?_ _) | go_size))⟩
end Go.Proofs.YtpndnbjpnajaaaaGreatDoor
namespace Go.Proofs.YtpndnbjpnajaaaaGreatDoor
open Go.RowKit
open Go.Proofs.Qw
set_option maxRecDepth 100000 in
set_option maxHeartbeats 4000000 in
theorem stOwn_any (v : Value) (s : St) (w : World) (S : Nat → Prop) (h : LinsR w S v s.lines) (hf : Fits s.lines) :
  Calls Tryz.prog 41 #[stV v s] w fun e w' => ∃ v', e = .returned (stV v' s) ∧ DocR true w' (fun b => w.heap.size ≤ b) v' s.lines ∧ Below w.heap.size w w' := by
 obtain ⟨W1, hW1, hB, hz, k0, k1⟩ := st_two w v s
 have hs1 := hB.size
 have HC := Lib.hid (docOwn_any v s.lines W1 w S h hB hf)
 have HB : Hid (∀ W, Below W1.heap.size W1 W → W.heap[w.heap.size]? = some (.cells #[v, .int .i64 s.anc.line, .int .i64 s.anc.col, .int .i64 s.foc.line, .int .i64 s.foc.col, .int .i64 s.on, .int .i64 s.off] 26) ∧ W.heap[w.heap.size + 1]? = some (.cells #[.slice none 0 0, .int .i64 0, .int .i64 0, .int .i64 0, .int .i64 0, .int .i64 0, .int .i64 0] 26)) := Lib.hid fun W hW => ⟨heap_below hW k0, heap_below hW k1⟩
 have H1 := Lib.hid hB
 obtain ⟨p0, f0⟩ := blk k0
 obtain ⟨va, vc, rfl⟩ := h.slice
 clear h hf k0 k1 hB
 go_enter Tryz.func41, Tryz.ntmps41
 go_wp2_with (go_at_call 108; refine HC.out.mono ?_; rintro e w2 ⟨v2, rfl, hv2, hb2⟩; obtain ⟨a2, c2, rfl⟩ := hv2.slice; obtain ⟨q0, g0⟩ := blk (HB.out _ hb2).1; obtain ⟨q1, g1⟩ := blk (HB.out _ hb2).2; have HV := Lib.hid hv2; clear hv2)
 refine bodyPost_ret (results_st rfl _ _ (w.heap.size + 1) (.slice a2 s.lines.length c2) (.int .i64 s.anc.line) (.int .i64 s.anc.col) (.int .i64 s.foc.line) (.int .i64 s.foc.col) (.int .i64 s.on) (.int .i64 s.off) rfl (by simp [heap_set, putIn, (HB.out _ hb2).2])) rfl ?_
 have hfin := H1.out.trans (hb2.mono hs1)
 have hv2 := HV.out
 exact ⟨_, rfl, (SliceR.stable (rdLin_stable _) hv2 (by (repeat' (first | (with_reducible exact Keeps.refl _ _) | (with_reducible refine Keeps.set ?_ ?_ _) | (with_reducible refine Keeps.alloc ?_ _) | (with_reducible refine Keeps.drew ?_) | (first | fail) | (simp; omega)))) (fun b h _ => (by have h' := h; (try simp at h'); omega))), by (repeat' (first | (with_reducible exact Below.refl _ _) | (with_reducible assumption) | (with_reducible refine Below.alloc ?_ ?_ _) | (with_reducible refine Below.drew ?_) | (with_reducible refine drewN_below ?_) | (with_reducible refine Below.setCell ?_ ?_ _) | go_size))⟩
end Go.Proofs.YtpndnbjpnajaaaaGreatDoor
namespace Go.Proofs.YtpndnbjpnajaaaaGreatDoor
open Go.RowKit
open Go.Proofs.Qw
set_option maxHeartbeats 1000000 in
theorem refCSpan_any (v : Value) (d : List Cel) (i j : Int) (w : World) (S : Nat → Prop) (own : Bool) (h : CelsR own w S v d) :
  Calls Tryz.prog 152 #[v, .int .i64 i, .int .i64 j] w fun e w' => e = .returned (.bool (spanC d.length i j)) ∧ w' = w := by
 obtain ⟨a, c, rfl⟩ := h.slice
 clear h
 have HS : Hid (spanC d.length i j = (decide (0 ≤ i) && (decide (i ≤ j) && decide (j ≤ (d.length : Int))))) := Lib.hid rfl
 go_enter Tryz.func152, Tryz.ntmps152
 go_wp2_with fail
 all_goals
  go_ret
  refine ⟨?_, rfl⟩
  rw [HS.out]
  refine congrArg Ending.returned (congrArg Value.bool ?_)
  clear HS
  simp (config := { failIfUnchanged := false }) [*]
 all_goals try omega
end Go.Proofs.YtpndnbjpnajaaaaGreatDoor
namespace Go.Proofs.YtpndnbjpnajaaaaGreatDoor
open Go.RowKit
open Go.Proofs.Qw
def insertC (cs : List Cel) (p : Nat) (more : List Cel) : List Cel := cs.take p ++ more ++ cs.drop p
theorem cels_from {w : World} {S : Nat → Prop} {a : Option Addr} {n c p : Nat} {xs : List Cel} (h : CelsR false w S (.slice a n c) xs) (hp : p ≤ xs.length) :
  ∃ X, CelsR false w S (.slice X (xs.length - p) (c - p)) (xs.drop p) ∧ ((c = p ∧ a = X) ∨ (¬ c = p ∧ a.map (·.add (p * 3)) = X)) := by
 obtain ⟨_, h2, h3⟩ := h.len
 have := SliceR.part h (i := p) (j := xs.length) (m := c) hp (Nat.le_refl _) h2 (Nat.le_refl _)
 rw [List.take_of_length_le (by rw [List.length_drop]; omega)] at this
 by_cases hcp : c = p
 ·exact ⟨a, by simpa only [sliced, if_pos hcp] using this, .inl ⟨hcp, rfl⟩⟩
 ·exact ⟨_, by simpa only [sliced, if_neg hcp] using this, .inr ⟨hcp, rfl⟩⟩
set_option maxRecDepth 100000 in
set_option maxHeartbeats 4000000 in
theorem cellsInsert_any (ca vb : Option Addr) (cc vc p : Nat) (cs more : List Cel) (w w0 w1 : World) (S S2 : Nat → Prop) (o1 o2 : Bool) (h' : CelsR o1 w0 S (.slice ca cs.length cc) cs) (hm' : CelsR o2 w1 S2 (.slice vb more.length vc) more)
  (h0 : Below w0.heap.size w0 w) (h1 : Below w1.heap.size w1 w) (hp : p ≤ cs.length) (hs : cs.length ≤ 1000000) (hs2 : more.length ≤ 1000000) :
  Calls Tryz.prog 195 #[.slice ca cs.length cc, .int .i64 p, .slice vb more.length vc] w (CellsSaid (insertC cs p more) 0 w) := by
 have h : CelsR false w (fun _ => True) (.slice ca cs.length cc) cs := SliceR.stable (rdOf_stable _) (SliceR.read (fun _ _ h => h) h') (.all h0) (fun _ _ _ => trivial)
 have hm : CelsR false w (fun _ => True) (.slice vb more.length vc) more := SliceR.stable (rdOf_stable _) (SliceR.read (fun _ _ h => h) hm') (.all h1) (fun _ _ _ => trivial)
 have HC1 := Lib.hid (cellsSpan_any _ cs p p w (fun _ => True) false h)
 have hsp : spanC cs.length p p = true := by unfold spanC; simp; omega
 rw [hsp] at HC1
 obtain ⟨_, hccl, hccm⟩ := h.len
 obtain ⟨X, hX, hcq⟩ := cels_from h hp
 have hHC : ∀ W, Below w.heap.size w W → ∀ g, W.heap[g]? = some (.cells #[.slice ca p cc, .slice vb more.length vc, .slice X (cs.length - p) (cc - p)] 40) → Calls Tryz.prog 193 #[.slice (some ⟨g, 0, none⟩) 3 3] W fun e w' => ∃ v', e = .returned v' ∧ CelsR true w' (fun b => W.heap.size ≤ b) v' (insertC cs p more) ∧ Below W.heap.size W w' := by
  intro W hW g hg
  have ha := (SliceR.below (rdOf_stable _) h hW).take (i := p) hp
  have hb := SliceR.below (rdOf_stable _) hm hW
  have hc := SliceR.below (rdOf_stable _) hX hW
  have := concatCell_any g 3 #[.slice ca p cc, .slice vb more.length vc, .slice X (cs.length - p) (cc - p)] [cs.take p, more, cs.drop p] W (fun _ => True) hg (fun k xs hk => by
   match k, hk with
   | 0, hk => cases hk; exact ⟨_, rfl, ha⟩
   | 1, hk => cases hk; exact ⟨_, rfl, hb⟩
   | 2, hk => cases hk; exact ⟨_, rfl, hc⟩) (by simp [lens]; omega) (by simp) rfl
  simpa [insertC] using this
 have HC := Lib.hid hHC
 have hBd : ∀ X, Below w.heap.size w (w.alloc X).drew := fun X => ((Below.refl _ _).alloc (Nat.le_refl _) X).drew
 unfold maxLen at hccm
 have u0 : (0 : Int) ≤ (p : Int) := Int.natCast_nonneg _
 have u1 : (p : Int) ≤ (cc : Int) := by omega
 have u2 : (p : Int) ≤ (cs.length : Int) := by omega
 clear h hm h' hm' hX hHC hsp
 rcases hcq with ⟨rfl, rfl⟩ | ⟨hcq, rfl⟩
 ·rw [Nat.sub_self, show cs.length - cc = 0 by omega] at HC
  go_enter Tryz.func195, Tryz.ntmps195
  go_wp2_with (go_at_call 200; refine HC1.out.mono ?_; rintro e w2 ⟨rfl, rfl⟩)
  go_region_held3 (fun _ => True) (trivial) ((go_at_call 193; refine (HC.out _ (hBd _) _ (heap_new _ _ rfl)).mono ?_; rintro e w5 ⟨v5, rfl, hv5, hb5⟩; obtain ⟨a5, c5, hv5e⟩ := hv5.slice; subst hv5e))
  go_wp2_with fail
  go_ret2
  exact ⟨_, rfl, SliceR.stable (rdOf_stable _) hv5 (Keeps.refl _ _) (fun b h _ => Nat.le_trans (hBd _).size h), below_from (hBd _) hb5⟩
 ·skip
  go_enter Tryz.func195, Tryz.ntmps195
  go_wp2_with (go_at_call 200; refine HC1.out.mono ?_; rintro e w2 ⟨rfl, rfl⟩)
  go_region_held3 (fun _ => True) (trivial) ((go_at_call 193; refine (HC.out _ (hBd _) _ (heap_new _ _ rfl)).mono ?_; rintro e w5 ⟨v5, rfl, hv5, hb5⟩; obtain ⟨a5, c5, hv5e⟩ := hv5.slice; subst hv5e))
  go_wp2_with fail
  go_ret2
  exact ⟨_, rfl, SliceR.stable (rdOf_stable _) hv5 (Keeps.refl _ _) (fun b h _ => Nat.le_trans (hBd _).size h), below_from (hBd _) hb5⟩
set_option maxRecDepth 100000 in
set_option maxHeartbeats 4000000 in
theorem refCInsert_any (ca vb : Option Addr) (cc vc p : Nat) (cs more : List Cel) (w w0 w1 : World) (S S2 : Nat → Prop) (o1 o2 : Bool) (h' : CelsR o1 w0 S (.slice ca cs.length cc) cs) (hm' : CelsR o2 w1 S2 (.slice vb more.length vc) more)
  (h0 : Below w0.heap.size w0 w) (h1 : Below w1.heap.size w1 w) (hp : p ≤ cs.length) (hs : cs.length ≤ 1000000) (hs2 : more.length ≤ 1000000) :
  Calls Tryz.prog 198 #[.slice ca cs.length cc, .int .i64 p, .slice vb more.length vc] w (CellsSaid (insertC cs p more) 0 w) := by
 have h : CelsR false w (fun _ => True) (.slice ca cs.length cc) cs := SliceR.stable (rdOf_stable _) (SliceR.read (fun _ _ h => h) h') (.all h0) (fun _ _ _ => trivial)
 have hm : CelsR false w (fun _ => True) (.slice vb more.length vc) more := SliceR.stable (rdOf_stable _) (SliceR.read (fun _ _ h => h) hm') (.all h1) (fun _ _ _ => trivial)
 have HC1 := Lib.hid (refCSpan_any _ cs p p w (fun _ => True) false h)
 have hsp : spanC cs.length p p = true := by unfold spanC; simp; omega
 rw [hsp] at HC1
 obtain ⟨_, hccl, hccm⟩ := h.len
 obtain ⟨X, hX, hcq⟩ := cels_from h hp
 have HO := Lib.hid (refOwnC_any _ (cs.take p) false w (fun _ => True) (h.take hp) (by rw [List.length_take]; omega))
 have HM := Lib.hid hm
 have HXX : Hid (∀ W, Below w.heap.size w W → Src Tryz.prog 3 40 (.slice X (cs.length - p) (cc - p)) (cs.drop p).length ((cs.drop p).flatMap encCel) W) := Lib.hid fun W hW => SliceR.src_flat rowCell eltCell (SliceR.below (rdOf_stable _) hX hW)
 have HMM : Hid (∀ W, Below w.heap.size w W → Src Tryz.prog 3 40 (.slice vb more.length vc) more.length (more.flatMap encCel) W) := Lib.hid fun W hW => SliceR.src_flat rowCell eltCell (SliceR.below (rdOf_stable _) hm hW)
 have hl1 : (cs.take p).length + more.length ≤ 100000000 := by rw [List.length_take]; omega
 have hl2 : (cs.take p ++ more).length + (cs.drop p).length ≤ 100000000 := by rw [List.length_append, List.length_take, List.length_drop]; omega
 have HLL := Lib.hid (And.intro hl1 hl2)
 unfold maxLen at hccm
 have u0 : (0 : Int) ≤ (p : Int) := Int.natCast_nonneg _
 have u1 : (p : Int) ≤ (cc : Int) := by omega
 have u2 : (p : Int) ≤ (cs.length : Int) := by omega
 clear h hm h' hm' hX hsp hl1 hl2
 rcases hcq with ⟨rfl, rfl⟩ | ⟨hcq, rfl⟩
 ·rw [Nat.sub_self, show cs.length - cc = 0 by omega] at HXX
  go_enter Tryz.func198, Tryz.ntmps198
  go_wp2_with (first
   | (go_at_call 152; refine HC1.out.mono ?_; rintro e w2 ⟨rfl, rfl⟩)
   | (go_at_call 183; refine HO.out.mono ?_; rintro e w3 ⟨v3, rfl, hv3, hb3⟩; have HV3 := Lib.hid hv3; have hz3 := hb3.size; clear hv3)
   | (at_builtin; refine wpList_append_R _ rfl _ _ 40 40 rfl rowCell eltCell w2.heap.size v3 (.slice vb more.length vc) (xs := cs.take cc) (ys := more) (news := more.flatMap encCel) rfl rfl HV3.out hz3 (HMM.out _ hb3) (flatCell _ _ _) HLL.out.1 ?_; intro v4 w4 hR4 hB4 _ _; have HV4 := Lib.hid hR4; have hb4 := hb3.trans hB4; have hz4 := hb4.size; clear hR4 hB4)
   | (at_builtin; refine wpList_append_R _ rfl _ _ 40 40 rfl rowCell eltCell w2.heap.size v4 (.slice ca 0 0) (xs := cs.take cc ++ more) (ys := cs.drop cc) (news := (cs.drop cc).flatMap encCel) rfl rfl HV4.out hz4 (HXX.out _ hb4) (flatCell _ _ _) HLL.out.2 ?_; intro v5 w5 hR5 hB5 _ _; have HV5 := Lib.hid hR5; have hb5 := hb4.trans hB5; clear hR5 hB5))
  go_ret2
  exact ⟨_, rfl, HV5.out, hb5⟩
 ·skip
  go_enter Tryz.func198, Tryz.ntmps198
  go_wp2_with (first
   | (go_at_call 152; refine HC1.out.mono ?_; rintro e w2 ⟨rfl, rfl⟩)
   | (go_at_call 183; refine HO.out.mono ?_; rintro e w3 ⟨v3, rfl, hv3, hb3⟩; have HV3 := Lib.hid hv3; have hz3 := hb3.size; clear hv3)
   | (at_builtin; refine wpList_append_R _ rfl _ _ 40 40 rfl rowCell eltCell w2.heap.size v3 (.slice vb more.length vc) (xs := cs.take p) (ys := more) (news := more.flatMap encCel) rfl rfl HV3.out hz3 (HMM.out _ hb3) (flatCell _ _ _) HLL.out.1 ?_; intro v4 w4 hR4 hB4 _ _; have HV4 := Lib.hid hR4; have hb4 := hb3.trans hB4; have hz4 := hb4.size; clear hR4 hB4)
   | (at_builtin; refine wpList_append_R _ rfl _ _ 40 40 rfl rowCell eltCell w2.heap.size v4 (.slice (ca.map (·.add (p * 3))) (cs.length - p) (cc - p)) (xs := cs.take p ++ more) (ys := cs.drop p) (news := (cs.drop p).flatMap encCel) rfl rfl HV4.out hz4 (HXX.out _ hb4) (flatCell _ _ _) HLL.out.2 ?_; intro v5 w5 hR5 hB5 _ _; have HV5 := Lib.hid hR5; have hb5 := hb4.trans hB5; clear hR5 hB5))
  go_ret2
  exact ⟨_, rfl, HV5.out, hb5⟩
end Go.Proofs.YtpndnbjpnajaaaaGreatDoor
