/- The reference's Paragraph. -/
import Derived.Test.YtpndnbjpnajaaaaGreatDoorRefKeysK
import Derived.Test.YtpndnbjpnajaaaaGreatDoorRefDSplitK
import Derived.Test.YtpndnbjpnajaaaaGreatDoorKeyLawsK
import Derived.Test.YtpndnbjpnajaaaaGreatDoorReplaceK
import Derived.Test.YtpndnbjpnajaaaaGreatDoorSameK
import Derived.Test.YtpndnbjpnajaaaaGreatDoorOwnK
import Derived.Test.YtpndnbjpnajaaaaGreatDoorDocPartK
import Derived.Lib.OthersKept
import Derived.Lib.RuneCount
import Derived.Test.YtpndnbjpnajaaaaGreatDoorCellsInsertK
set_option linter.unusedVariables false
set_option linter.unusedSimpArgs false
namespace Go.Proofs.YtpndnbjpnajaaaaGreatDoor
open Go.RowKit
open Go.Proofs.Qw
attribute [local go_sem] Oper.semAt_some
theorem para_fits {s : St} {l' : Lin} (hm : mayS s = true) (h1 : (lineAt (outS s) (spanS s).1).cells = []) (h2 : outdentL (lineAt (outS s) (spanS s).1) = some l') : Fits ((outS s).set (spanS s).1.line.toNat l') := by
 have h3 := para_ok hm
 rw [para_some hm h1 h2] at h3
 rcases h3 with ⟨_, D, q, h4, h5, _⟩ | ⟨h4, _⟩
 ·simp only at h4
  have h6 := congrArg St.lines h4
  simp only [closedS] at h6
  rw [h6]
  exact (may_small h5).2
 ·simp only at h4
  have h6 := congrArg St.lines h4
  simp only [closedS, noS] at h6
  rw [h6]
  exact ⟨by simp, by simp⟩
set_option maxRecDepth 100000 in
set_option maxHeartbeats 8000000 in
theorem refParagraph_any (v : Value) (s : St) (w : World) (S : Nat → Prop) (h : LinsR w S v s.lines) (hs : Small s.lines) (hf : Fits s.lines) (ho : -9223372036854775808 ≤ s.on ∧ s.on ≤ 9223372036854775807) (hof : -9223372036854775808 ≤ s.off ∧ s.off ≤ 9223372036854775807) :
  Calls Tryz.prog 49 #[stV v s] w (StSaid (keyS s (paraK s)) w) := by
 obtain ⟨W1, hW1, hB, hz, k0, k1⟩ := st_two w v s
 have HB : Hid (∀ W, Below W1.heap.size W1 W → W.heap[w.heap.size]? = some (.cells #[v, .int .i64 s.anc.line, .int .i64 s.anc.col, .int .i64 s.foc.line, .int .i64 s.foc.col, .int .i64 s.on, .int .i64 s.off] 26) ∧ W.heap[w.heap.size + 1]? = some (.cells #[.slice none 0 0, .int .i64 0, .int .i64 0, .int .i64 0, .int .i64 0, .int .i64 0, .int .i64 0] 26)) := Lib.hid fun W hW => ⟨heap_below hW k0, heap_below hW k1⟩
 have hs1 := hB.size
 have H1 := Lib.hid hB
 have hw0 : Below W1.heap.size W1 W1 := Below.refl _ _
 have HV : Hid (∀ W, Below W1.heap.size W1 W → LinsR W S v s.lines) := Lib.hid fun W hW => h.below (rdLin_stable _) (hB.trans (hW.mono hs1))
 have HM : Hid (∀ W, Below W1.heap.size W1 W → Calls Tryz.prog 70 #[stV v s] W fun e w' => e = .returned (.bool (mayS s)) ∧ Below W.heap.size W w') := Lib.hid fun W hW => refStMay_any v s W S (HV.out W hW) hs ho hof
 obtain ⟨p0, f0⟩ := blk k0
 obtain ⟨p1, f1⟩ := blk k1
 obtain ⟨va, vc, rfl⟩ := h.slice
 cases hm : mayS s
 ·have HR2 : Hid (keyS s (paraK s) = (noS, 1)) := Lib.hid (key_not hm _)
  rw [hm] at HM
  clear h hs hf ho hof k0 k1 hB hm
  go_enter Tryz.func49, Tryz.ntmps49
  go_wp2_with (go_at_call 70; refine (HM.out _ hw0).mono ?_; rintro e w2 ⟨rfl, hst2⟩; have hb2 := below_from hw0 hst2; obtain ⟨q0, g0⟩ := blk (HB.out _ hb2).1; obtain ⟨q1, g1⟩ := blk (HB.out _ hb2).2)
  refine bodyPost_ret (results_st_e rfl _ _ (w.heap.size + 1) (.slice none 0 0) (.int .i64 0) (.int .i64 0) (.int .i64 0) (.int .i64 0) (.int .i64 0) (.int .i64 0) (.int .i64 1) rfl rfl (by simp [heap_set, putIn, (HB.out _ hb2).2])) rfl ?_
  unfold StSaid
  rw [HR2.out]
  have hfin := H1.out.trans (hb2.mono hs1)
  exact ⟨_, rfl, SliceR.nil _ _ _ _ _ _, by (repeat' (first | (with_reducible exact Below.refl _ _) | (with_reducible assumption) | (with_reducible refine Below.alloc ?_ ?_ _) | (with_reducible refine Below.drew ?_) | (with_reducible refine drewN_below ?_) | (with_reducible refine Below.setCell ?_ ?_ _) | go_size))⟩
 obtain ⟨hMo, hsp, hiO, _, hiA⟩ := out_facts hm
 obtain ⟨i, p, l, hA, hl, hpl, hml, hla⟩ := may_at hMo hiO
 have hso := (may_small hMo).1
 have hfo := (may_small hMo).2
 have hfl := hfo.2 l (mem_of_at hl)
 have hsl := hso.2.2 l (mem_of_at hl)
 have HEm0 : Hid (∀ W, Below W1.heap.size W1 W → Calls Tryz.prog 116 #[stV _ s] W fun e w' => ∃ v', e = .returned (.tuple #[v', .agg #[.int .i64 (spanS s).1.line, .int .i64 (spanS s).1.col]]) ∧ DocR true w' (fun b => W.heap.size ≤ b) v' (outS s) ∧ Below W.heap.size W w') := Lib.hid fun W hW => refEmpty_any _ s W S (HV.out W hW) hs hf hm
 rw [hA] at HEm0
 have HPS := fun l' => para_some hm (l' := l')
 have HPN := para_none hm
 have HPF := fun l' => para_fits hm (l' := l')
 rw [hla, hA] at HPN
 rw [hla, hA] at HPS HPF
 obtain ⟨O, hO⟩ : ∃ O, outS s = O := ⟨_, rfl⟩
 rw [hO] at hl hso hfo HEm0 HPS HPN HPF
 have HEm : Hid (∀ W, Below W1.heap.size W1 W → Calls Tryz.prog 116 #[stV _ s] W fun e w' => ∃ v', e = .returned (.tuple #[v', .agg #[.int .i64 i, .int .i64 p]]) ∧ DocR true w' (fun b => W.heap.size ≤ b) v' O ∧ Below W.heap.size W w') := HEm0
 have HL := Lib.hid hl
 have HP : Hid (∀ p : Ps, posV p = .agg #[.int .i64 p.line, .int .i64 p.col]) := Lib.hid fun _ => rfl
 rw [hm] at HM
 have hil := (List.getElem?_eq_some_iff.1 hl).1
 have i0 : (0 : Int) ≤ (i : Int) := Int.natCast_nonneg _
 have i1 : (i : Int) < (O.length : Int) := by omega
 have HPL := Lib.hid hpl
 obtain ⟨X, hX⟩ : ∃ X, keyS s (paraK s) = X := ⟨_, rfl⟩
 rw [hX] at HPS HPN ⊢
 have HOu0 : Hid (∀ W la lc ca cc T, IntsR false W T (.slice la l.lists.length lc) l.lists → CelsR false W T (.slice ca l.cells.length cc) l.cells → Calls Tryz.prog 117 #[.agg #[.int .i64 l.quote, .slice la l.lists.length lc, .int .i64 l.kind, .slice ca l.cells.length cc]] W (TurnSaid W (outdentL l))) := Lib.hid fun W la lc ca cc T h1 h2 => refOutdent_any l la ca lc cc W T h1 h2 hfl hsl hml
 have HSp0 : Hid (∀ W dv T, LinsR W T dv O → Calls Tryz.prog 118 #[dv, .agg #[.int .i64 i, .int .i64 p]] W (DocPSaid (splitD O ⟨i, p⟩) W)) := Lib.hid fun W dv T hdv => refDSplit_any dv O ⟨i, p⟩ W T hdv hso hfo
 have HFY : Hid (∀ Y q, splitD O ⟨i, p⟩ = (Y, q, 0) → Fits Y) := Lib.hid fun Y q h9 => (may_small (split_back h9).1).2
 have hq0 := (mayL_facts hml).1
 -- the line: empty or not, what it stands in
 have hcase : (((l.cells.length : Nat) : Int) == 0) = true ∧ (∃ l', outdentL l = some l' ∧ Hid (X = (closedS (O.set i l') ⟨i, p⟩, 0)) ∧ Hid (Fits (O.set i l'))) ∧ ((0 < (l.lists.length : Int)) ∨ (¬ 0 < (l.lists.length : Int) ∧ 0 < l.quote)) ∨ Hid (X = endS (splitD O ⟨i, p⟩)) ∧ ((((l.cells.length : Nat) : Int) == 0) = false ∨ ((((l.cells.length : Nat) : Int) == 0) = true ∧ ¬ 0 < (l.lists.length : Int) ∧ ¬ 0 < l.quote)) := by
  by_cases hc : l.cells = []
  ·have hc2 : (((l.cells.length : Nat) : Int) == 0) = true := by rw [hc]; rfl
   cases ho1 : outdentL l with
   | none =>
    refine .inr ⟨Lib.hid (HPN (.inr ho1)), .inr ⟨hc2, ?_⟩⟩
    unfold outdentL at ho1
    split at ho1
    ·cases ho1
    ·rename_i h5
     split at ho1
     ·cases ho1
     ·rename_i h6
      have h7 : l.lists = [] := by simpa using h5
      exact ⟨by rw [h7]; simp, h6⟩
   | some l' =>
    refine .inl ⟨hc2, ⟨l', rfl, Lib.hid (by have := HPS l' hc ho1; simpa using this), Lib.hid (by have := HPF l' hc ho1; simpa using this)⟩, ?_⟩
    unfold outdentL at ho1
    split at ho1
    ·rename_i h5
     have : l.lists.length ≠ 0 := fun e => h5 (List.length_eq_zero_iff.1 e)
     exact .inl (by omega)
    ·rename_i h5
     have h7 : l.lists = [] := by simpa using h5
     split at ho1
     ·rename_i h6
      exact .inr ⟨by rw [h7]; simp, h6⟩
     ·cases ho1
  ·have hc2 : (((l.cells.length : Nat) : Int) == 0) = false := by
    have : l.cells.length ≠ 0 := fun e => hc (List.length_eq_zero_iff.1 e)
    simp
    exact hc
   exact .inr ⟨Lib.hid (HPN (.inl hc)), .inl hc2⟩
 clear h hs hf ho hof k0 k1 hB hm hMo hsp hiO hiA hA hl hpl hml hla hso hfo hfl hsl hO hX HPS HPN HPF hil HEm0
 go_enter Tryz.func49, Tryz.ntmps49
 go_upto_region 4 with (first
  | (go_at_call 70; refine (HM.out _ hw0).mono ?_; rintro e w2 ⟨rfl, hst2⟩; have hb2 := below_from hw0 hst2; obtain ⟨q0, g0⟩ := blk (HB.out _ hb2).1; obtain ⟨q1, g1⟩ := blk (HB.out _ hb2).2)
  | (go_at_call 116; refine (HEm.out _ hb2).mono ?_; rintro e w3 ⟨v3, rfl, hv3, hst3⟩; obtain ⟨a3, c3, rfl⟩ := hv3.slice; have hb3 := below_from hb2 hst3; have HV3 := Lib.hid hv3; have HZ3 := Lib.hid hst3.size; clear hv3 q0 g0 q1 g1; obtain ⟨q0, g0⟩ := blk (HB.out _ hb3).1; obtain ⟨q1, g1⟩ := blk (HB.out _ hb3).2))
 obtain ⟨W4, hW4⟩ : ∃ W4, w3.alloc (.cells #[.int .i64 i, .int .i64 p] 24) = W4 := ⟨_, rfl⟩
 have h4x : Below w3.heap.size w3 W4 := hW4 ▸ (Below.refl _ _).alloc (Nat.le_refl _) _
 have n4 : W4.heap[w3.heap.size]? = some (.cells #[.int .i64 i, .int .i64 p] 24) := hW4 ▸ heap_new _ _ rfl
 have z4 : w3.heap.size < W4.heap.size := (by rw [← hW4]; simp)
 rw [hW4]
 have hb4 := below_from hb3 h4x
 clear hW4
 have HX4 := Lib.hid h4x
 have HD4 : Hid (DocR true W4 (fun b => w2.heap.size ≤ b) (.slice a3 O.length c3) O) := Lib.hid (HV3.out.below h4x)
 obtain ⟨b, o, la, lc, ca, cc, rfl, hb0, hbz, hAt, hfr, cs, hcs⟩ := own_line HD4.out HL.out
 have n1 : b < w3.heap.size := by
  have h5 := (SliceR.bounded (rdLin_stable true) HV3.out)
  obtain ⟨b', o', _, _, _, _, e, hb', _⟩ := own_line h5 HL.out
  cases e
  exact hb'.2
 have HAT4 := Lib.hid hAt
 have hl3 := HD4.out.len
 unfold maxLen at hl3
 clear q0 g0 q1 g1 h4x hbz
 obtain ⟨q1, g1⟩ := blk (HB.out _ hb4).2
 obtain ⟨q4, g4⟩ := blk n4
 obtain ⟨_, c0, c1, c2, c3', _, _⟩ := hAt
 go_upto_region 5 with fail
 obtain ⟨W5, hW5⟩ : ∃ W5, W4.alloc (.cells #[.int .i64 l.quote, .slice la l.lists.length lc, .int .i64 l.kind, .slice ca l.cells.length cc] 42) = W5 := ⟨_, rfl⟩
 have h5x : Below W4.heap.size W4 W5 := hW5 ▸ (Below.refl _ _).alloc (Nat.le_refl _) _
 have n5 : W5.heap[W4.heap.size]? = some (.cells #[.int .i64 l.quote, .slice la l.lists.length lc, .int .i64 l.kind, .slice ca l.cells.length cc] 42) := hW5 ▸ heap_new _ _ rfl
 have z5 : W4.heap.size < W5.heap.size := (by rw [← hW5]; simp)
 rw [hW5]
 have hb5 := below_from hb4 h5x
 have HD5 := Lib.hid (HD4.out.below h5x)
 have HAT5 := Lib.hid (HAT4.out.below h5x)
 have HCS := Lib.hid (heap_below h5x hcs)
 have HB5 : Hid (∀ W, Below W5.heap.size W5 W → W.heap[w3.heap.size]? = some (.cells #[.int .i64 i, .int .i64 p] 24) ∧ W.heap[W4.heap.size]? = some (.cells #[.int .i64 l.quote, .slice la l.lists.length lc, .int .i64 l.kind, .slice ca l.cells.length cc] 42)) := Lib.hid fun W hW => ⟨heap_below hW (heap_below h5x n4), heap_below hW n5⟩
 have hw5 : Below W5.heap.size W5 W5 := Below.refl _ _
 have HOu := Lib.hid (fun W (hW : Below W5.heap.size W5 W) => HOu0.out W la lc ca cc _ (HAT5.out.below hW).listsR (HAT5.out.below hW).cellsR)
 have HSp := Lib.hid (fun W (hW : Below W5.heap.size W5 W) => HSp0.out W (.slice (some ⟨b, o, none⟩) O.length c3) _ (DocR.read (HD5.out.below hW)))
 have HB0 := Lib.hid hb0
 have HN1 := Lib.hid n1
 clear hW5 n5 n4 q1 g1 q4 g4 c0 c1 c2 c3' hcs hfr h5x HX4 HAT4 HD4 HOu0 HSp0 HV3 p0 f0 p1 f1
 obtain ⟨q1, g1⟩ := blk (HB.out _ hb5).2
 obtain ⟨q4, g4⟩ := blk (HB5.out _ hw5).1
 obtain ⟨q5, g5⟩ := blk (HB5.out _ hw5).2
 have hd5 : Below W5.heap.size W5 W5.drew := hw5.drew
 rcases hcase with ⟨hce, ⟨l', hol, HR2, HF2⟩, hq⟩ | ⟨HR1, hq⟩
 ·rw [hol] at HOu
  clear hol HSp HFY
  rcases hq with hq | hq
  ·have d1 : decide (0 < (l.lists.length : Int)) = true := decide_eq_true hq
   have d2 : 0 < l.lists.length := (by omega)
   have d3 : decide (0 < l.lists.length) = true := decide_eq_true d2
   go_upto_region 6 with fail
   go_region_held3 (fun w' => w'.cell? ⟨w3.heap.size, 0, none⟩ = some (.int .i64 i) ∧ w'.cell? ⟨W4.heap.size, 0, none⟩ = some (.int .i64 l.quote) ∧ w'.cell? ⟨W4.heap.size, 1, none⟩ = some (.slice la l.lists.length lc) ∧ w'.cell? ⟨W4.heap.size, 2, none⟩ = some (.int .i64 l.kind) ∧ w'.cell? ⟨W4.heap.size, 3, none⟩ = some (.slice ca l.cells.length cc)) (go_keep)
    ((go_at_call 117; refine (HOu.out _ hd5).mono ?_; rintro e w6 ⟨hsome, _, hst6⟩; obtain ⟨a', b', he', ha', hb'⟩ := hsome _ rfl; obtain ⟨x1, y1, rfl⟩ := ha'.slice; obtain ⟨x2, y2, rfl⟩ := hb'.slice; simp only [linV] at he'; subst he'; have hx6 := below_from hd5 hst6; have hb6 := below_from hb5 hx6; obtain ⟨r4, s4⟩ := blk (HB5.out _ hx6).1; obtain ⟨r5, s5⟩ := blk (HB5.out _ hx6).2; obtain ⟨_, d0, d1, d2, d3, _, _⟩ := HAT5.out.below hx6; have k4 := fun k => (blk (heap_below hx6 HCS.out)).2 k; have HAB := Lib.hid (And.intro ha' hb'); have n5 : ¬ b = w3.heap.size := (by have := HN1.out; omega); have n6 : ¬ w3.heap.size = b := (by have := HN1.out; omega); have n7 : ¬ b = W4.heap.size := (by have := HN1.out; omega); have n8 : ¬ W4.heap.size = b := (by have := HN1.out; omega); clear ha' hb'))
   go_upto_region 7 with fail
   have HS6 : IntsR true w6 (fun b => w2.heap.size ≤ b) (.slice x1 l'.lists.length y1) l'.lists ∧ CelsR true w6 (fun b => w2.heap.size ≤ b) (.slice x2 l'.cells.length y2) l'.cells := ⟨HAB.out.1.stable (rdOf_stable _) (Keeps.refl _ _) (fun b h _ => by have h' : W5.heap.size ≤ b := h; have := HZ3.out; omega), HAB.out.2.stable (rdOf_stable _) (Keeps.refl _ _) (fun b h _ => by have h' : W5.heap.size ≤ b := h; have := HZ3.out; omega)⟩
   obtain ⟨W7, hW7, hD7, hk7, hz7, hb7'⟩ := put_line (HD5.out.below hx6) HL.out l' (.slice x1 l'.lists.length y1) (.slice x2 l'.cells.length y2) HS6.1 HS6.2
   rw [hW7]
   have hb7 : Below W1.heap.size W1 W7 := hb6.trans (hb7' _ (by have := HB0.out; have := hb2.size; omega))
   have j1 := (hk7 w3.heap.size (by have := HN1.out; omega)).trans (HB5.out _ hx6).1
   have HJ := Lib.hid (And.intro j1 hD7)
   clear hW7 hk7 hD7 hb7' d0 d1 d2 d3 k4 r4 s4 r5 s5 q1 g1 q4 g4 q5 g5
   obtain ⟨q1, g1⟩ := blk (HB.out _ hb7).2
   obtain ⟨q4, g4⟩ := blk HJ.out.1
   have HCl : Hid (∀ v' n W, DocR true W (fun b => n ≤ b) v' (O.set i l') → Calls Tryz.prog 112 #[v', .agg #[.int .i64 i, .int .i64 p]] W fun e w' => ∃ u, e = .returned (.agg #[u, .int .i64 i, .int .i64 p, .int .i64 i, .int .i64 p, .int .i64 0, .int .i64 0]) ∧ DocR true w' (fun b => W.heap.size ≤ b) u (O.set i l') ∧ Below W.heap.size W w') := Lib.hid fun v' n W hv => refClosed_any v' _ ⟨i, p⟩ W _ hv.read HF2.out
   go_wp2_with (go_at_call 112; refine (HCl.out _ _ _ HJ.out.2).mono ?_; rintro e w8 ⟨v8, rfl, hv8, hst8⟩; obtain ⟨a8, c8, rfl⟩ := hv8.slice; have hb8 := below_from hb7 hst8; have HV8 := Lib.hid hv8; clear hv8; obtain ⟨q6, g6⟩ := blk (HB.out _ hb8).2)
   refine bodyPost_ret (results_st_e rfl _ _ (w.heap.size + 1) (.slice a8 (O.set i l').length c8) (.int .i64 i) (.int .i64 p) (.int .i64 i) (.int .i64 p) (.int .i64 0) (.int .i64 0) (.int .i64 0) rfl rfl (by simp [heap_set, putIn, (HB.out _ hb8).2])) rfl ?_
   unfold StSaid
   rw [HR2.out]
   have hfin := H1.out.trans (hb8.mono hs1)
   have hv8 := HV8.out
   have z4 := hb7.size
   exact ⟨_, rfl, (SliceR.stable (rdLin_stable _) hv8 (by (repeat' (first | (with_reducible exact Keeps.refl _ _) | (with_reducible refine Keeps.set ?_ ?_ _) | (with_reducible refine Keeps.alloc ?_ _) | (with_reducible refine Keeps.drew ?_) | (first | fail) | (simp; omega)))) (fun b h _ => (by have h' := h; (try simp at h'); omega))), by (repeat' (first | (with_reducible exact Below.refl _ _) | (with_reducible assumption) | (with_reducible refine Below.alloc ?_ ?_ _) | (with_reducible refine Below.drew ?_) | (with_reducible refine drewN_below ?_) | (with_reducible refine Below.setCell ?_ ?_ _) | go_size))⟩
  ·obtain ⟨hq1, hq⟩ := hq
   have d1 : decide (0 < (l.lists.length : Int)) = false := decide_eq_false (by omega)
   have d2 : ¬ 0 < l.lists.length := (by omega)
   have d3 : decide (0 < l.lists.length) = false := decide_eq_false d2
   have d4 : decide (0 < l.quote) = true := decide_eq_true hq
   go_upto_region 6 with fail
   go_region_held3 (fun w' => w'.cell? ⟨w3.heap.size, 0, none⟩ = some (.int .i64 i) ∧ w'.cell? ⟨W4.heap.size, 0, none⟩ = some (.int .i64 l.quote) ∧ w'.cell? ⟨W4.heap.size, 1, none⟩ = some (.slice la l.lists.length lc) ∧ w'.cell? ⟨W4.heap.size, 2, none⟩ = some (.int .i64 l.kind) ∧ w'.cell? ⟨W4.heap.size, 3, none⟩ = some (.slice ca l.cells.length cc)) (go_keep)
    ((go_at_call 117; refine (HOu.out _ hd5).mono ?_; rintro e w6 ⟨hsome, _, hst6⟩; obtain ⟨a', b', he', ha', hb'⟩ := hsome _ rfl; obtain ⟨x1, y1, rfl⟩ := ha'.slice; obtain ⟨x2, y2, rfl⟩ := hb'.slice; simp only [linV] at he'; subst he'; have hx6 := below_from hd5 hst6; have hb6 := below_from hb5 hx6; obtain ⟨r4, s4⟩ := blk (HB5.out _ hx6).1; obtain ⟨r5, s5⟩ := blk (HB5.out _ hx6).2; obtain ⟨_, d0, d1, d2, d3, _, _⟩ := HAT5.out.below hx6; have k4 := fun k => (blk (heap_below hx6 HCS.out)).2 k; have HAB := Lib.hid (And.intro ha' hb'); have n5 : ¬ b = w3.heap.size := (by have := HN1.out; omega); have n6 : ¬ w3.heap.size = b := (by have := HN1.out; omega); have n7 : ¬ b = W4.heap.size := (by have := HN1.out; omega); have n8 : ¬ W4.heap.size = b := (by have := HN1.out; omega); clear ha' hb'))
   go_upto_region 7 with fail
   have HS6 : IntsR true w6 (fun b => w2.heap.size ≤ b) (.slice x1 l'.lists.length y1) l'.lists ∧ CelsR true w6 (fun b => w2.heap.size ≤ b) (.slice x2 l'.cells.length y2) l'.cells := ⟨HAB.out.1.stable (rdOf_stable _) (Keeps.refl _ _) (fun b h _ => by have h' : W5.heap.size ≤ b := h; have := HZ3.out; omega), HAB.out.2.stable (rdOf_stable _) (Keeps.refl _ _) (fun b h _ => by have h' : W5.heap.size ≤ b := h; have := HZ3.out; omega)⟩
   obtain ⟨W7, hW7, hD7, hk7, hz7, hb7'⟩ := put_line (HD5.out.below hx6) HL.out l' (.slice x1 l'.lists.length y1) (.slice x2 l'.cells.length y2) HS6.1 HS6.2
   rw [hW7]
   have hb7 : Below W1.heap.size W1 W7 := hb6.trans (hb7' _ (by have := HB0.out; have := hb2.size; omega))
   have j1 := (hk7 w3.heap.size (by have := HN1.out; omega)).trans (HB5.out _ hx6).1
   have HJ := Lib.hid (And.intro j1 hD7)
   clear hW7 hk7 hD7 hb7' d0 d1 d2 d3 k4 r4 s4 r5 s5 q1 g1 q4 g4 q5 g5
   obtain ⟨q1, g1⟩ := blk (HB.out _ hb7).2
   obtain ⟨q4, g4⟩ := blk HJ.out.1
   have HCl : Hid (∀ v' n W, DocR true W (fun b => n ≤ b) v' (O.set i l') → Calls Tryz.prog 112 #[v', .agg #[.int .i64 i, .int .i64 p]] W fun e w' => ∃ u, e = .returned (.agg #[u, .int .i64 i, .int .i64 p, .int .i64 i, .int .i64 p, .int .i64 0, .int .i64 0]) ∧ DocR true w' (fun b => W.heap.size ≤ b) u (O.set i l') ∧ Below W.heap.size W w') := Lib.hid fun v' n W hv => refClosed_any v' _ ⟨i, p⟩ W _ hv.read HF2.out
   go_wp2_with (go_at_call 112; refine (HCl.out _ _ _ HJ.out.2).mono ?_; rintro e w8 ⟨v8, rfl, hv8, hst8⟩; obtain ⟨a8, c8, rfl⟩ := hv8.slice; have hb8 := below_from hb7 hst8; have HV8 := Lib.hid hv8; clear hv8; obtain ⟨q6, g6⟩ := blk (HB.out _ hb8).2)
   refine bodyPost_ret (results_st_e rfl _ _ (w.heap.size + 1) (.slice a8 (O.set i l').length c8) (.int .i64 i) (.int .i64 p) (.int .i64 i) (.int .i64 p) (.int .i64 0) (.int .i64 0) (.int .i64 0) rfl rfl (by simp [heap_set, putIn, (HB.out _ hb8).2])) rfl ?_
   unfold StSaid
   rw [HR2.out]
   have hfin := H1.out.trans (hb8.mono hs1)
   have hv8 := HV8.out
   have z4 := hb7.size
   exact ⟨_, rfl, (SliceR.stable (rdLin_stable _) hv8 (by (repeat' (first | (with_reducible exact Keeps.refl _ _) | (with_reducible refine Keeps.set ?_ ?_ _) | (with_reducible refine Keeps.alloc ?_ _) | (with_reducible refine Keeps.drew ?_) | (first | fail) | (simp; omega)))) (fun b h _ => (by have h' := h; (try simp at h'); omega))), by (repeat' (first | (with_reducible exact Below.refl _ _) | (with_reducible assumption) | (with_reducible refine Below.alloc ?_ ?_ _) | (with_reducible refine Below.drew ?_) | (with_reducible refine drewN_below ?_) | (with_reducible refine Below.setCell ?_ ?_ _) | go_size))⟩
 ·obtain ⟨Y, q, er, hY⟩ : ∃ Y q er, splitD O ⟨i, p⟩ = (Y, q, er) := ⟨_, _, _, rfl⟩
  rw [hY] at HSp HR1
  have HF : er = 0 → Fits Y := fun e => HFY.out Y q (by rw [hY, e])
  clear hY HFY HOu
  rcases hq with hce | ⟨hce, hq1, hq2⟩
  ·go_upto_region 9 with (go_at_call 118; refine (HSp.out _ hw5).mono ?_; intro e w9 hsaid; obtain ⟨v9, he9, hv9, hst9⟩ := hsaid; rw [HP.out] at he9; obtain ⟨a9, c9, rfl⟩ := hv9.slice; subst he9; have hb9 := below_from hb5 hst9; have HV9 := Lib.hid hv9; clear hv9; obtain ⟨t1, u1⟩ := blk (HB.out _ hb9).2)
   obtain ⟨W10, hW10⟩ : ∃ W10, w9.alloc (.cells #[.int .i64 q.line, .int .i64 q.col] 24) = W10 := ⟨_, rfl⟩
   have h10x : Below w9.heap.size w9 W10 := hW10 ▸ (Below.refl _ _).alloc (Nat.le_refl _) _
   have n10 : W10.heap[w9.heap.size]? = some (.cells #[.int .i64 q.line, .int .i64 q.col] 24) := hW10 ▸ heap_new _ _ rfl
   have z10 : w9.heap.size < W10.heap.size := (by rw [← hW10]; simp)
   rw [hW10]
   have hb10 := below_from hb9 h10x
   clear hW10
   have HB10 := Lib.hid n10
   have HV10 := Lib.hid (HV9.out.below h10x)
   clear n10 h10x
   obtain ⟨y1, g1'⟩ := blk (HB.out _ hb10).2
   obtain ⟨y2, g2'⟩ := blk HB10.out
   by_cases her : er = 0
   ·have her2 : (er == (0 : Int)) = true := by rw [her]; rfl
    have hF := HF her
    have HCl : Hid (∀ v' n W, DocR true W (fun b => n ≤ b) v' Y → Calls Tryz.prog 112 #[v', .agg #[.int .i64 q.line, .int .i64 q.col]] W fun e w' => ∃ u, e = .returned (.agg #[u, .int .i64 q.line, .int .i64 q.col, .int .i64 q.line, .int .i64 q.col, .int .i64 0, .int .i64 0]) ∧ DocR true w' (fun b => W.heap.size ≤ b) u Y ∧ Below W.heap.size W w') := Lib.hid fun v' n W hv => refClosed_any v' Y q W _ hv.read hF
    have HR2 : Hid (X = (closedS Y q, 0)) := Lib.hid (HR1.out.trans (by rw [her]; rfl))
    clear her hF HF HR1
    go_wp2_with (go_at_call 112; refine (HCl.out _ _ _ HV10.out).mono ?_; rintro e w11 ⟨v11, rfl, hv11, hst11⟩; obtain ⟨a11, c11, rfl⟩ := hv11.slice; have hb11 := below_from hb10 hst11; have HV11 := Lib.hid hv11; clear hv11; obtain ⟨q6, g6⟩ := blk (HB.out _ hb11).2)
    refine bodyPost_ret (results_st_e rfl _ _ (w.heap.size + 1) (.slice a11 Y.length c11) (.int .i64 q.line) (.int .i64 q.col) (.int .i64 q.line) (.int .i64 q.col) (.int .i64 0) (.int .i64 0) (.int .i64 0) rfl rfl (by simp [heap_set, putIn, (HB.out _ hb11).2])) rfl ?_
    unfold StSaid
    rw [HR2.out]
    have hfin := H1.out.trans (hb11.mono hs1)
    have hv11 := HV11.out
    have z4 := hb10.size
    exact ⟨_, rfl, (SliceR.stable (rdLin_stable _) hv11 (by (repeat' (first | (with_reducible exact Keeps.refl _ _) | (with_reducible refine Keeps.set ?_ ?_ _) | (with_reducible refine Keeps.alloc ?_ _) | (with_reducible refine Keeps.drew ?_) | (first | fail) | (simp; omega)))) (fun b h _ => (by have h' := h; (try simp at h'); omega))), by (repeat' (first | (with_reducible exact Below.refl _ _) | (with_reducible assumption) | (with_reducible refine Below.alloc ?_ ?_ _) | (with_reducible refine Below.drew ?_) | (with_reducible refine drewN_below ?_) | (with_reducible refine Below.setCell ?_ ?_ _) | go_size))⟩
   ·have her2 : (er == (0 : Int)) = false := beq_false_of_ne her
    have HR2 : Hid (X = (noS, er)) := Lib.hid (HR1.out.trans (if_neg her))
    clear her HF HR1
    go_wp2_with fail
    refine bodyPost_ret (results_st_e rfl _ _ (w.heap.size + 1) (.slice none 0 0) (.int .i64 0) (.int .i64 0) (.int .i64 0) (.int .i64 0) (.int .i64 0) (.int .i64 0) (.int .i64 er) rfl rfl (by simp [heap_set, putIn, (HB.out _ hb10).2])) rfl ?_
    unfold StSaid
    rw [HR2.out]
    have hfin := H1.out.trans (hb10.mono hs1)
    exact ⟨_, rfl, SliceR.nil _ _ _ _ _ _, by (repeat' (first | (with_reducible exact Below.refl _ _) | (with_reducible assumption) | (with_reducible refine Below.alloc ?_ ?_ _) | (with_reducible refine Below.drew ?_) | (with_reducible refine drewN_below ?_) | (with_reducible refine Below.setCell ?_ ?_ _) | go_size))⟩
  ·have d1 : decide (0 < (l.lists.length : Int)) = false := decide_eq_false (by omega)
   have d2 : ¬ 0 < l.lists.length := (by omega)
   have d3 : decide (0 < l.lists.length) = false := decide_eq_false d2
   have d4 : decide (0 < l.quote) = false := decide_eq_false (by omega)
   go_upto_region 9 with (go_at_call 118; refine (HSp.out _ hw5).mono ?_; intro e w9 hsaid; obtain ⟨v9, he9, hv9, hst9⟩ := hsaid; rw [HP.out] at he9; obtain ⟨a9, c9, rfl⟩ := hv9.slice; subst he9; have hb9 := below_from hb5 hst9; have HV9 := Lib.hid hv9; clear hv9; obtain ⟨t1, u1⟩ := blk (HB.out _ hb9).2)
   obtain ⟨W10, hW10⟩ : ∃ W10, w9.alloc (.cells #[.int .i64 q.line, .int .i64 q.col] 24) = W10 := ⟨_, rfl⟩
   have h10x : Below w9.heap.size w9 W10 := hW10 ▸ (Below.refl _ _).alloc (Nat.le_refl _) _
   have n10 : W10.heap[w9.heap.size]? = some (.cells #[.int .i64 q.line, .int .i64 q.col] 24) := hW10 ▸ heap_new _ _ rfl
   have z10 : w9.heap.size < W10.heap.size := (by rw [← hW10]; simp)
   rw [hW10]
   have hb10 := below_from hb9 h10x
   clear hW10
   have HB10 := Lib.hid n10
   have HV10 := Lib.hid (HV9.out.below h10x)
   clear n10 h10x
   obtain ⟨y1, g1'⟩ := blk (HB.out _ hb10).2
   obtain ⟨y2, g2'⟩ := blk HB10.out
   by_cases her : er = 0
   ·have her2 : (er == (0 : Int)) = true := by rw [her]; rfl
    have hF := HF her
    have HCl : Hid (∀ v' n W, DocR true W (fun b => n ≤ b) v' Y → Calls Tryz.prog 112 #[v', .agg #[.int .i64 q.line, .int .i64 q.col]] W fun e w' => ∃ u, e = .returned (.agg #[u, .int .i64 q.line, .int .i64 q.col, .int .i64 q.line, .int .i64 q.col, .int .i64 0, .int .i64 0]) ∧ DocR true w' (fun b => W.heap.size ≤ b) u Y ∧ Below W.heap.size W w') := Lib.hid fun v' n W hv => refClosed_any v' Y q W _ hv.read hF
    have HR2 : Hid (X = (closedS Y q, 0)) := Lib.hid (HR1.out.trans (by rw [her]; rfl))
    clear her hF HF HR1
    go_wp2_with (go_at_call 112; refine (HCl.out _ _ _ HV10.out).mono ?_; rintro e w11 ⟨v11, rfl, hv11, hst11⟩; obtain ⟨a11, c11, rfl⟩ := hv11.slice; have hb11 := below_from hb10 hst11; have HV11 := Lib.hid hv11; clear hv11; obtain ⟨q6, g6⟩ := blk (HB.out _ hb11).2)
    refine bodyPost_ret (results_st_e rfl _ _ (w.heap.size + 1) (.slice a11 Y.length c11) (.int .i64 q.line) (.int .i64 q.col) (.int .i64 q.line) (.int .i64 q.col) (.int .i64 0) (.int .i64 0) (.int .i64 0) rfl rfl (by simp [heap_set, putIn, (HB.out _ hb11).2])) rfl ?_
    unfold StSaid
    rw [HR2.out]
    have hfin := H1.out.trans (hb11.mono hs1)
    have hv11 := HV11.out
    have z4 := hb10.size
    exact ⟨_, rfl, (SliceR.stable (rdLin_stable _) hv11 (by (repeat' (first | (with_reducible exact Keeps.refl _ _) | (with_reducible refine Keeps.set ?_ ?_ _) | (with_reducible refine Keeps.alloc ?_ _) | (with_reducible refine Keeps.drew ?_) | (first | fail) | (simp; omega)))) (fun b h _ => (by have h' := h; (try simp at h'); omega))), by (repeat' (first | (with_reducible exact Below.refl _ _) | (with_reducible assumption) | (with_reducible refine Below.alloc ?_ ?_ _) | (with_reducible refine Below.drew ?_) | (with_reducible refine drewN_below ?_) | (with_reducible refine Below.setCell ?_ ?_ _) | go_size))⟩
   ·have her2 : (er == (0 : Int)) = false := beq_false_of_ne her
    have HR2 : Hid (X = (noS, er)) := Lib.hid (HR1.out.trans (if_neg her))
    clear her HF HR1
    go_wp2_with fail
    refine bodyPost_ret (results_st_e rfl _ _ (w.heap.size + 1) (.slice none 0 0) (.int .i64 0) (.int .i64 0) (.int .i64 0) (.int .i64 0) (.int .i64 0) (.int .i64 0) (.int .i64 er) rfl rfl (by simp [heap_set, putIn, (HB.out _ hb10).2])) rfl ?_
    unfold StSaid
    rw [HR2.out]
    have hfin := H1.out.trans (hb10.mono hs1)
    exact ⟨_, rfl, SliceR.nil _ _ _ _ _ _, by (repeat' (first | (with_reducible exact Below.refl _ _) | (with_reducible assumption) | (with_reducible refine Below.alloc ?_ ?_ _) | (with_reducible refine Below.drew ?_) | (with_reducible refine drewN_below ?_) | (with_reducible refine Below.setCell ?_ ?_ _) | go_size))⟩
end Go.Proofs.YtpndnbjpnajaaaaGreatDoor
namespace Go.Proofs.YtpndnbjpnajaaaaGreatDoor
open Go.RowKit
open Go.Proofs.Qw
attribute [local go_sem] Oper.semAt_some
theorem keyok_fits {x : St × Int} {D : Doc} {q : Ps} (h : KeyOk x) (e : x = (closedS D q, 0)) : Fits D := by
 subst e
 rcases h with ⟨_, D', q', h4, h5, _⟩ | ⟨h4, h7⟩
 ·have h6 := congrArg St.lines h4
  simp only [closedS] at h6
  rw [h6]
  exact (may_small h5).2
 ·rcases h7 with h7 | h7 <;> cases h7
theorem back_key {s : St} {i j : Nat} {l : Lin} (hm : mayS s = true) (hc : s.anc = s.foc) (hfoc : s.foc = ⟨i, j⟩) (hl : s.lines[i]? = some l) (hj : j ≤ l.cells.length) :
  (0 < j → spanD s.lines ⟨i, (j : Int) - 1⟩ ⟨i, j⟩ = true ∧ keyS s (backK s) = (closedS (deleteL s.lines ⟨i, (j : Int) - 1⟩ ⟨i, j⟩) ⟨i, (j : Int) - 1⟩, 0)) ∧
  (j = 0 → ∀ l', freeL l = some l' → keyS s (backK s) = (closedS (s.lines.set i l') ⟨i, 0⟩, 0)) ∧
  (j = 0 → freeL l = none → i = 0 → keyS s (backK s) = (noS, 7)) ∧
  (j = 0 → freeL l = none → ¬ i = 0 → spanD s.lines (endD (s.lines.take i)) ⟨i, 0⟩ = true ∧ keyS s (backK s) = (closedS (deleteL s.lines (endD (s.lines.take i)) ⟨i, 0⟩) (endD (s.lines.take i)), 0)) := by
 have hM := (mayS_at hm).1
 have hi := (List.getElem?_eq_some_iff.1 hl).1
 have hk := back_law hm hc hfoc hl hj
 refine ⟨fun h0 => ⟨?_, ?_⟩, fun h0 l' hf => ?_, fun h0 hf hi0 => ?_, fun h0 hf hi0 => ⟨?_, ?_⟩⟩
 ·rw [show ((j : Int) - 1) = ((j - 1 : Nat) : Int) by omega]
  exact span_mk hM hl hl (by omega) hj (Nat.le_refl _) (fun _ => by omega)
 ·rw [hk, if_pos h0]
 ·rw [hk, if_neg (by omega), hf]
 ·rw [hk, if_neg (by omega), hf]
  exact if_pos hi0
 ·obtain ⟨n, rfl⟩ : ∃ n, i = n + 1 := ⟨i - 1, by omega⟩
  obtain ⟨m, hm⟩ : ∃ m, s.lines[n]? = some m := ⟨s.lines[n]'(by omega), List.getElem?_eq_getElem (by omega)⟩
  rw [end_take hm]
  exact span_mk (q := 0) hM hm hl (Nat.le_refl _) (Nat.zero_le _) (by omega) (fun e => by omega)
 ·rw [hk, if_neg (by omega), hf]
  exact if_neg hi0
set_option maxRecDepth 100000 in
set_option maxHeartbeats 8000000 in
theorem refBack_any (v : Value) (s : St) (w : World) (S : Nat → Prop) (h : LinsR w S v s.lines) (hs : Small s.lines) (hf : Fits s.lines) (ho : -9223372036854775808 ≤ s.on ∧ s.on ≤ 9223372036854775807) (hof : -9223372036854775808 ≤ s.off ∧ s.off ≤ 9223372036854775807) :
  Calls Tryz.prog 51 #[stV v s] w (StSaid (keyS s (backK s)) w) := by
 obtain ⟨W1, hW1, hB, hz, k0, k1⟩ := st_two w v s
 have HB : Hid (∀ W, Below W1.heap.size W1 W → W.heap[w.heap.size]? = some (.cells #[v, .int .i64 s.anc.line, .int .i64 s.anc.col, .int .i64 s.foc.line, .int .i64 s.foc.col, .int .i64 s.on, .int .i64 s.off] 26) ∧ W.heap[w.heap.size + 1]? = some (.cells #[.slice none 0 0, .int .i64 0, .int .i64 0, .int .i64 0, .int .i64 0, .int .i64 0, .int .i64 0] 26)) := Lib.hid fun W hW => ⟨heap_below hW k0, heap_below hW k1⟩
 have hs1 := hB.size
 have H1 := Lib.hid hB
 have hw0 : Below W1.heap.size W1 W1 := Below.refl _ _
 have HV : Hid (∀ W, Below W1.heap.size W1 W → LinsR W S v s.lines) := Lib.hid fun W hW => h.below (rdLin_stable _) (hB.trans (hW.mono hs1))
 have HM : Hid (∀ W, Below W1.heap.size W1 W → Calls Tryz.prog 70 #[stV v s] W fun e w' => e = .returned (.bool (mayS s)) ∧ Below W.heap.size W w') := Lib.hid fun W hW => refStMay_any v s W S (HV.out W hW) hs ho hof
 have HEr0 : Hid (∀ W, Below W1.heap.size W1 W → Calls Tryz.prog 46 #[stV v s] W (StSaid (keyS s (eraseK s)) W)) := Lib.hid fun W hW => refErase_any v s W S (HV.out W hW) hs hf ho hof
 have hg := guardPos
 have hq := fun (w : World) => run_neq_pos s.anc s.foc w
 cases hm : mayS s
 ·have HR2 : Hid (keyS s (backK s) = (noS, 1)) := Lib.hid (key_not hm _)
  rw [hm] at HM
  obtain ⟨p0, f0⟩ := blk k0
  obtain ⟨p1, f1⟩ := blk k1
  obtain ⟨va, vc, rfl⟩ := h.slice
  clear h hs hf ho hof k0 k1 hB hm HEr0
  go_enter Tryz.func51, Tryz.ntmps51
  go_wp2_with (go_at_call 70; refine (HM.out _ hw0).mono ?_; rintro e w2 ⟨rfl, hst2⟩; have hb2 := below_from hw0 hst2; obtain ⟨q0, g0⟩ := blk (HB.out _ hb2).1; obtain ⟨q1, g1⟩ := blk (HB.out _ hb2).2)
  refine bodyPost_ret (results_st_e rfl _ _ (w.heap.size + 1) (.slice none 0 0) (.int .i64 0) (.int .i64 0) (.int .i64 0) (.int .i64 0) (.int .i64 0) (.int .i64 0) (.int .i64 1) rfl rfl (by simp [heap_set, putIn, (HB.out _ hb2).2])) rfl ?_
  unfold StSaid
  rw [HR2.out]
  have hfin := H1.out.trans (hb2.mono hs1)
  exact ⟨_, rfl, SliceR.nil _ _ _ _ _ _, by (repeat' (first | (with_reducible exact Below.refl _ _) | (with_reducible assumption) | (with_reducible refine Below.alloc ?_ ?_ _) | (with_reducible refine Below.drew ?_) | (with_reducible refine drewN_below ?_) | (with_reducible refine Below.setCell ?_ ?_ _) | go_size))⟩
 have hok := back_ok hm
 by_cases hc : s.anc = s.foc
 ·rw [decide_eq_true hc] at hq
  have hac := out_closed hm hc
  obtain ⟨i, j, l, hfoc, hl, hj⟩ := isD_nat hac.2.2
  obtain ⟨F1, F2, F3, F4⟩ := back_key hm hc hfoc hl hj
  have hml := (mayD_iff.1 (mayS_at hm).1).2.2.2 l (mem_of_at hl)
  have hsl := hs.2.2 l (mem_of_at hl)
  have hfl := hf.2 l (mem_of_at hl)
  obtain ⟨va, vc, rfl, hvc, hvm, hx⟩ := lins_shape h
  obtain ⟨b, o, la, lc, ca, cc, rfl, hAt⟩ := hx i l hl
  have HAT : Hid (∀ W, Below W1.heap.size W1 W → LinAt W S b (o + i * 4) l la lc ca cc) := Lib.hid fun W hW => hAt.below (hB.trans (hW.mono hs1))
  have HD0 : Hid (∀ (P Q : Ps) W, spanD s.lines P Q = true → Below W1.heap.size W1 W → Calls Tryz.prog 111 #[.slice (some ⟨b, o, none⟩) s.lines.length vc, .agg #[.int .i64 P.line, .int .i64 P.col], .agg #[.int .i64 Q.line, .int .i64 Q.col]] W fun e w' => ∃ u, e = .returned (.tuple #[u, .int .i64 0]) ∧ DocR true w' (fun b => W.heap.size ≤ b) u (deleteL s.lines P Q) ∧ Below W.heap.size W w') := Lib.hid fun P Q W hsp hW => by have := refDDelete_any _ s.lines P Q W S (HV.out W hW) hs hf; rw [(cut_may hsp).1] at this; exact this
  have HCl0 : Hid (∀ (P : Ps) (D : Doc) v' n W, Fits D → DocR true W (fun b => n ≤ b) v' D → Calls Tryz.prog 112 #[v', .agg #[.int .i64 P.line, .int .i64 P.col]] W fun e w' => ∃ u, e = .returned (.agg #[u, .int .i64 P.line, .int .i64 P.col, .int .i64 P.line, .int .i64 P.col, .int .i64 0, .int .i64 0]) ∧ DocR true w' (fun b => W.heap.size ≤ b) u D ∧ Below W.heap.size W w') := Lib.hid fun P D v' n W hF hv => refClosed_any v' D P W _ hv.read hF
  have HFr : Hid (∀ W, Below W1.heap.size W1 W → Calls Tryz.prog 123 #[.agg #[.int .i64 l.quote, .slice la l.lists.length lc, .int .i64 l.kind, .slice ca l.cells.length cc]] W (TurnSaid W (freeL l))) := Lib.hid fun W hW => refFree_any l la ca lc cc W S (HAT.out W hW).listsR (HAT.out W hW).cellsR hfl hsl hml
  have HOw : Hid (∀ W, Below W1.heap.size W1 W → Calls Tryz.prog 102 #[.slice (some ⟨b, o, none⟩) s.lines.length vc] W fun e w' => ∃ v', e = .returned v' ∧ DocR true w' (fun b => W.heap.size ≤ b) v' s.lines ∧ Below W.heap.size W w') := Lib.hid fun W hW => refOwnD_any _ s.lines W S (HV.out W hW) hf
  have hil := (List.getElem?_eq_some_iff.1 hl).1
  have HEn : Hid (∀ W, Below W1.heap.size W1 W → Calls Tryz.prog 124 #[.slice (some ⟨b, o, none⟩) i vc] W fun e w' => e = .returned (posV (endD (s.lines.take i))) ∧ Below W.heap.size W w') := Lib.hid fun W hW => refEnd_any _ (s.lines.take i) W S (SliceR.take (HV.out W hW) (Nat.le_of_lt hil))
  have hll := (HAT.out _ hw0).cellsR.len
  unfold maxLen at hvm hll
  have i0 : (0 : Int) ≤ (i : Int) := Int.natCast_nonneg _
  have i1 : (i : Int) < (s.lines.length : Int) := by omega
  have e1 : IntKind.i64.wrap ((j : Int) - 1) = (j : Int) - 1 := IntWalk.i64_in _ (by omega)
  rw [hm] at HM
  have HL := Lib.hid hl
  rcases Nat.eq_zero_or_pos j with hj0 | hj0
  ·have hfoc0 : s.foc = ⟨i, 0⟩ := by rw [hfoc, hj0]; rfl
   have F2' := F2 hj0
   have F3' := F3 hj0
   have F4' := F4 hj0
   clear F1 F2 F3 F4 hfoc e1 hj hj0
   generalize keyS s (backK s) = X at F2' F3' F4' hok ⊢
   obtain ⟨lines, anc, foc, on, off⟩ := s
   simp only at hc hfoc0 hl hil hq HV HM HB HD0 HOw HEn HAT HL hvc hvm i1 F2' F3' F4' k0
   subst hfoc0 hc
   simp only [Bool.not_true] at hq HB k0 HM F2' F3' F4'
   obtain ⟨p0, f0⟩ := blk k0
   obtain ⟨p1, f1⟩ := blk k1
   have HV := 0
   have HK0 := Lib.hid hok
   obtain ⟨fl, hfr0⟩ : ∃ fl, freeL l = fl := ⟨_, rfl⟩
   rw [hfr0] at HFr F2' F3' F4'
   clear h hs hf ho hof k0 k1 hB hm HEr0 hac hl hx hAt hml hsl hfl hok hfr0
   cases fl with
   | some l' =>
    have HR2 : Hid (X = (closedS (lines.set i l') ⟨i, 0⟩, 0)) := Lib.hid (F2' l' rfl)
    have hF := keyok_fits HK0.out HR2.out
    have HCl : Hid _ := Lib.hid fun v' n W => HCl0.out ⟨i, 0⟩ _ v' n W hF
    clear F2' F3' F4' HD0 HCl0 HEn HK0 hvc hil hF
    go_enter Tryz.func51, Tryz.ntmps51
    go_upto_region 6 with (go_at_call 70; refine (HM.out _ hw0).mono ?_; rintro e w2 ⟨rfl, hst2⟩; have hb2 := below_from hw0 hst2; obtain ⟨q0, g0⟩ := blk (HB.out _ hb2).1; obtain ⟨q1, g1⟩ := blk (HB.out _ hb2).2)
    obtain ⟨W4, hW4⟩ : ∃ W4, w2.alloc (.cells #[.int .i64 i, .int .i64 0] 24) = W4 := ⟨_, rfl⟩
    have HX : Hid (Below W1.heap.size W1 W4) := Lib.hid (hW4 ▸ below_from hb2 ((Below.refl _ _).alloc (Nat.le_refl _) _))
    have J2 : Hid (W4.heap[w2.heap.size]? = some (.cells #[.int .i64 i, .int .i64 0] 24)) := Lib.hid (hW4 ▸ heap_new _ _ rfl)
    have hz4 : w2.heap.size < W4.heap.size := (by rw [← hW4]; simp)
    rw [hW4]
    clear hW4 q0 g0 q1 g1 p0 f0 p1 f1
    obtain ⟨j0, i0'⟩ := blk (HB.out _ HX.out).1
    obtain ⟨j1, i1'⟩ := blk (HB.out _ HX.out).2
    obtain ⟨j2, i2⟩ := blk J2.out
    obtain ⟨_, c0, c1, c2, c3, _, _⟩ := HAT.out _ HX.out
    go_upto_region 11 with (go_at_call 123; refine (HFr.out _ HX.out).mono ?_; rintro e w5 ⟨hsome, _, hst5⟩; obtain ⟨a', b', he', ha', hb'⟩ := hsome _ rfl; obtain ⟨x1, y1, rfl⟩ := ha'.slice; obtain ⟨x2, y2, rfl⟩ := hb'.slice; simp only [linV] at he'; subst he'; have hb5 := below_from HX.out hst5; have HAB := Lib.hid (And.intro ha' hb'); clear ha' hb')
    obtain ⟨W6, hW6⟩ : ∃ W6, w5.alloc (.cells #[(.int .i64 l'.quote), (.slice x1 l'.lists.length y1), (.int .i64 l'.kind), (.slice x2 l'.cells.length y2)] 42) = W6 := ⟨_, rfl⟩
    have H57 : Hid (Below w5.heap.size w5 W6) := Lib.hid (hW6 ▸ (Below.refl _ _).alloc (Nat.le_refl _) _)
    have HX6 : Hid (Below W1.heap.size W1 W6) := Lib.hid (below_from hb5 H57.out)
    have J6 : Hid (W6.heap[w2.heap.size]? = some (.cells #[.int .i64 i, .int .i64 0] 24) ∧ W6.heap[w5.heap.size]? = some (.cells #[(.int .i64 l'.quote), (.slice x1 l'.lists.length y1), (.int .i64 l'.kind), (.slice x2 l'.cells.length y2)] 42)) := Lib.hid ⟨heap_below H57.out (heap_below hst5 J2.out), hW6 ▸ heap_new _ _ rfl⟩
    have hz46 : w2.heap.size < W6.heap.size := (by have := H57.out.size; have := hst5.size; omega)
    have hz6 : w5.heap.size ≤ W6.heap.size := H57.out.size
    rw [hW6]
    clear hW6 j0 i0' j1 i1' j2 i2 c0 c1 c2 c3
    obtain ⟨j0, i0'⟩ := blk (HB.out _ HX6.out).1
    obtain ⟨j1, i1'⟩ := blk (HB.out _ HX6.out).2
    obtain ⟨q4, g4⟩ := blk J6.out.1
    obtain ⟨q5, g5⟩ := blk J6.out.2
    go_upto_region 14 with (go_at_call 102; refine (HOw.out _ HX6.out).mono ?_; rintro e w7 ⟨v7, rfl, hv7, hst7⟩; obtain ⟨a7, c7, rfl⟩ := hv7.slice; have hb7 := below_from HX6.out hst7; have HV7 := Lib.hid hv7; obtain ⟨b7, o7, la7, lc7, ca7, cc7, rfl, hb70, hbz7, hAt7, hfr7, cs7, hcs7⟩ := own_line hv7 HL.out; obtain ⟨_, d0, d1, d2, d3, _, _⟩ := hAt7; have HB70 := Lib.hid hb70; have hl7 := hv7.len; clear hv7; obtain ⟨q4, g4⟩ := blk (heap_below hst7 J6.out.1); obtain ⟨q5, g5⟩ := blk (heap_below hst7 J6.out.2))
    have hl3 : l'.lists.length = l'.lists.length := rfl
    have HS7 : IntsR true w7 (fun b => W1.heap.size ≤ b) (.slice x1 l'.lists.length y1) l'.lists ∧ CelsR true w7 (fun b => W1.heap.size ≤ b) (.slice x2 l'.cells.length y2) l'.cells := ⟨SliceR.stable (rdOf_stable _) HAB.out.1 (Keeps.all (H57.out.trans (hst7.mono hz6))) (fun b h _ => by have h' : W4.heap.size ≤ b := h; have := HX.out.size; omega), SliceR.stable (rdOf_stable _) HAB.out.2 (Keeps.all (H57.out.trans (hst7.mono hz6))) (fun b h _ => by have h' : W4.heap.size ≤ b := h; have := HX.out.size; omega)⟩
    have hV7 : DocR true w7 (fun b => W1.heap.size ≤ b) (.slice (some ⟨b7, o7, none⟩) lines.length c7) lines := SliceR.stable (rdLin_stable true) HV7.out (Keeps.refl _ _) (fun b h _ => by have h' : W6.heap.size ≤ b := h; have := HX6.out.size; omega)
    obtain ⟨W8, hW8, hD8, hk8, hz8, hb8'⟩ := put_line hV7 HL.out l' (.slice x1 l'.lists.length y1) (.slice x2 l'.cells.length y2) HS7.1 HS7.2
    rw [hW8]
    have hb80 : W6.heap.size ≤ b7 := HB70.out
    have hb8w : Below W1.heap.size W1 W8 := hb7.trans (hb8' _ (by have := HX6.out.size; omega))
    have j4 := (hk8 w2.heap.size (by have := hz46; omega)).trans (heap_below hst7 J6.out.1)
    have HJ := Lib.hid (And.intro j4 hD8)
    clear hW8 hk8 hD8 hb8' d0 d1 d2 d3 hfr7 hcs7 q4 g4 q5 g5 hV7 hb80 j4
    obtain ⟨q1, g1⟩ := blk (HB.out _ hb8w).2
    obtain ⟨q4, g4⟩ := blk HJ.out.1
    go_wp2_with (go_at_call 112; refine (HCl.out _ _ _ HJ.out.2).mono ?_; rintro e w8 ⟨v8, rfl, hv8, hst8⟩; obtain ⟨a8, c8, rfl⟩ := hv8.slice; have hb8 := below_from hb8w hst8; have HV8 := Lib.hid hv8; clear hv8; obtain ⟨q6, g6⟩ := blk (HB.out _ hb8).2)
    have hb7 := hb8w
    refine bodyPost_ret (results_st_e rfl _ _ (w.heap.size + 1) (.slice a8 (lines.set i l').length c8) (.int .i64 i) (.int .i64 0) (.int .i64 i) (.int .i64 0) (.int .i64 0) (.int .i64 0) (.int .i64 0) rfl rfl (by simp [heap_set, putIn, (HB.out _ hb8).2])) rfl ?_
    unfold StSaid
    rw [HR2.out]
    have hfin := H1.out.trans (hb8.mono hs1)
    have hv8 := HV8.out
    have z4 := hb7.size
    exact ⟨_, rfl, (SliceR.stable (rdLin_stable _) hv8 (by (repeat' (first | (with_reducible exact Keeps.refl _ _) | (with_reducible refine Keeps.set ?_ ?_ _) | (with_reducible refine Keeps.alloc ?_ _) | (with_reducible refine Keeps.drew ?_) | (first | fail) | (simp; omega)))) (fun b h _ => (by have h' := h; (try simp at h'); omega))), by (repeat' (first | (with_reducible exact Below.refl _ _) | (with_reducible assumption) | (with_reducible refine Below.alloc ?_ ?_ _) | (with_reducible refine Below.drew ?_) | (with_reducible refine drewN_below ?_) | (with_reducible refine Below.setCell ?_ ?_ _) | go_size))⟩
   | none =>
    clear F2'
    by_cases hi0 : i = 0
    ·have HR2 : Hid (X = (noS, 7)) := Lib.hid (F3' rfl hi0)
     have z1 : ((i : Int) == 0) = true := beq_iff_eq.2 (by omega)
     clear F3' F4' HD0 HCl0 HEn HK0 hvc hil hi0
     go_enter Tryz.func51, Tryz.ntmps51
     go_upto_region 6 with (go_at_call 70; refine (HM.out _ hw0).mono ?_; rintro e w2 ⟨rfl, hst2⟩; have hb2 := below_from hw0 hst2; obtain ⟨q0, g0⟩ := blk (HB.out _ hb2).1; obtain ⟨q1, g1⟩ := blk (HB.out _ hb2).2)
     obtain ⟨W4, hW4⟩ : ∃ W4, w2.alloc (.cells #[.int .i64 i, .int .i64 0] 24) = W4 := ⟨_, rfl⟩
     have HX : Hid (Below W1.heap.size W1 W4) := Lib.hid (hW4 ▸ below_from hb2 ((Below.refl _ _).alloc (Nat.le_refl _) _))
     have J2 : Hid (W4.heap[w2.heap.size]? = some (.cells #[.int .i64 i, .int .i64 0] 24)) := Lib.hid (hW4 ▸ heap_new _ _ rfl)
     have hz4 : w2.heap.size < W4.heap.size := (by rw [← hW4]; simp)
     rw [hW4]
     clear hW4 q0 g0 q1 g1 p0 f0 p1 f1
     obtain ⟨j0, i0'⟩ := blk (HB.out _ HX.out).1
     obtain ⟨j1, i1'⟩ := blk (HB.out _ HX.out).2
     obtain ⟨j2, i2⟩ := blk J2.out
     obtain ⟨_, c0, c1, c2, c3, _, _⟩ := HAT.out _ HX.out
     go_upto_region 11 with (go_at_call 123; refine (HFr.out _ HX.out).mono ?_; rintro e w5 ⟨_, hnone, hst5⟩; obtain rfl := hnone rfl; have hb5 := below_from HX.out hst5)
     obtain ⟨W6, hW6⟩ : ∃ W6, w5.alloc (.cells #[(.int .i64 0), (.slice none 0 0), (.int .i64 0), (.slice none 0 0)] 42) = W6 := ⟨_, rfl⟩
     have H57 : Hid (Below w5.heap.size w5 W6) := Lib.hid (hW6 ▸ (Below.refl _ _).alloc (Nat.le_refl _) _)
     have HX6 : Hid (Below W1.heap.size W1 W6) := Lib.hid (below_from hb5 H57.out)
     have J6 : Hid (W6.heap[w2.heap.size]? = some (.cells #[.int .i64 i, .int .i64 0] 24) ∧ W6.heap[w5.heap.size]? = some (.cells #[(.int .i64 0), (.slice none 0 0), (.int .i64 0), (.slice none 0 0)] 42)) := Lib.hid ⟨heap_below H57.out (heap_below hst5 J2.out), hW6 ▸ heap_new _ _ rfl⟩
     have hz46 : w2.heap.size < W6.heap.size := (by have := H57.out.size; have := hst5.size; omega)
     have hz6 : w5.heap.size ≤ W6.heap.size := H57.out.size
     rw [hW6]
     clear hW6 j0 i0' j1 i1' j2 i2 c0 c1 c2 c3
     obtain ⟨j0, i0'⟩ := blk (HB.out _ HX6.out).1
     obtain ⟨j1, i1'⟩ := blk (HB.out _ HX6.out).2
     obtain ⟨q4, g4⟩ := blk J6.out.1
     obtain ⟨q5, g5⟩ := blk J6.out.2
     go_wp2_with fail
     refine bodyPost_ret (results_st_e rfl _ _ (w.heap.size + 1) (.slice none 0 0) (.int .i64 0) (.int .i64 0) (.int .i64 0) (.int .i64 0) (.int .i64 0) (.int .i64 0) (.int .i64 7) rfl rfl (by simp [heap_set, putIn, (HB.out _ HX6.out).2])) rfl ?_
     unfold StSaid
     rw [HR2.out]
     have hfin := H1.out.trans (HX6.out.mono hs1)
     exact ⟨_, rfl, SliceR.nil _ _ _ _ _ _, by (repeat' (first | (with_reducible exact Below.refl _ _) | (with_reducible assumption) | (with_reducible refine Below.alloc ?_ ?_ _) | (with_reducible refine Below.drew ?_) | (with_reducible refine drewN_below ?_) | (with_reducible refine Below.setCell ?_ ?_ _) | go_size))⟩
    ·obtain ⟨hsp, hX⟩ := F4' rfl hi0
     have z1 : ((i : Int) == 0) = false := beq_false_of_ne (by omega)
     have hF := keyok_fits HK0.out hX
     obtain ⟨E, hE⟩ : ∃ E, endD (lines.take i) = E := ⟨_, rfl⟩
     rw [hE] at hX hsp HEn hF
     have HR2 : Hid (X = (closedS (deleteL lines E ⟨i, 0⟩) E, 0)) := Lib.hid hX
     have HD : Hid _ := Lib.hid fun W => HD0.out E ⟨i, 0⟩ W hsp
     have HCl : Hid _ := Lib.hid fun v' n W => HCl0.out E _ v' n W hF
     have HP : Hid (∀ p : Ps, posV p = .agg #[.int .i64 p.line, .int .i64 p.col]) := Lib.hid fun _ => rfl
     rw [HP.out] at HEn
     generalize deleteL lines E ⟨i, 0⟩ = D at HD HCl HR2
     have i2 : (i : Int) ≤ (lines.length : Int) := by omega
     have i3 : (i : Int) ≤ (vc : Int) := by omega
     clear F3' F4' HD0 HCl0 HK0 hi0 hX hsp hF hE
     go_enter Tryz.func51, Tryz.ntmps51
     go_upto_region 6 with (go_at_call 70; refine (HM.out _ hw0).mono ?_; rintro e w2 ⟨rfl, hst2⟩; have hb2 := below_from hw0 hst2; obtain ⟨q0, g0⟩ := blk (HB.out _ hb2).1; obtain ⟨q1, g1⟩ := blk (HB.out _ hb2).2)
     obtain ⟨W4, hW4⟩ : ∃ W4, w2.alloc (.cells #[.int .i64 i, .int .i64 0] 24) = W4 := ⟨_, rfl⟩
     have HX : Hid (Below W1.heap.size W1 W4) := Lib.hid (hW4 ▸ below_from hb2 ((Below.refl _ _).alloc (Nat.le_refl _) _))
     have J2 : Hid (W4.heap[w2.heap.size]? = some (.cells #[.int .i64 i, .int .i64 0] 24)) := Lib.hid (hW4 ▸ heap_new _ _ rfl)
     have hz4 : w2.heap.size < W4.heap.size := (by rw [← hW4]; simp)
     rw [hW4]
     clear hW4 q0 g0 q1 g1 p0 f0 p1 f1
     obtain ⟨j0, i0'⟩ := blk (HB.out _ HX.out).1
     obtain ⟨j1, i1'⟩ := blk (HB.out _ HX.out).2
     obtain ⟨j2, i2⟩ := blk J2.out
     obtain ⟨_, c0, c1, c2, c3, _, _⟩ := HAT.out _ HX.out
     go_upto_region 11 with (go_at_call 123; refine (HFr.out _ HX.out).mono ?_; rintro e w5 ⟨_, hnone, hst5⟩; obtain rfl := hnone rfl; have hb5 := below_from HX.out hst5)
     obtain ⟨W6, hW6⟩ : ∃ W6, w5.alloc (.cells #[(.int .i64 0), (.slice none 0 0), (.int .i64 0), (.slice none 0 0)] 42) = W6 := ⟨_, rfl⟩
     have H57 : Hid (Below w5.heap.size w5 W6) := Lib.hid (hW6 ▸ (Below.refl _ _).alloc (Nat.le_refl _) _)
     have HX6 : Hid (Below W1.heap.size W1 W6) := Lib.hid (below_from hb5 H57.out)
     have J6 : Hid (W6.heap[w2.heap.size]? = some (.cells #[.int .i64 i, .int .i64 0] 24) ∧ W6.heap[w5.heap.size]? = some (.cells #[(.int .i64 0), (.slice none 0 0), (.int .i64 0), (.slice none 0 0)] 42)) := Lib.hid ⟨heap_below H57.out (heap_below hst5 J2.out), hW6 ▸ heap_new _ _ rfl⟩
     have hz46 : w2.heap.size < W6.heap.size := (by have := H57.out.size; have := hst5.size; omega)
     have hz6 : w5.heap.size ≤ W6.heap.size := H57.out.size
     rw [hW6]
     clear hW6 j0 i0' j1 i1' j2 i2 c0 c1 c2 c3
     obtain ⟨j0, i0'⟩ := blk (HB.out _ HX6.out).1
     obtain ⟨j1, i1'⟩ := blk (HB.out _ HX6.out).2
     obtain ⟨q4, g4⟩ := blk J6.out.1
     obtain ⟨q5, g5⟩ := blk J6.out.2
     go_upto_region 18 with (go_at_call 124; refine (HEn.out _ HX6.out).mono ?_; rintro e w9 ⟨rfl, hst9⟩; have hb9 := below_from HX6.out hst9)
     obtain ⟨W10, hW10⟩ : ∃ W10, w9.alloc (.cells #[.int .i64 E.line, .int .i64 E.col] 24) = W10 := ⟨_, rfl⟩
     have h10x : Below w9.heap.size w9 W10 := hW10 ▸ (Below.refl _ _).alloc (Nat.le_refl _) _
     have n10 : W10.heap[w9.heap.size]? = some (.cells #[.int .i64 E.line, .int .i64 E.col] 24) := hW10 ▸ heap_new _ _ rfl
     have HX10 := Lib.hid (below_from hb9 h10x)
     have J10 := Lib.hid n10
     have J4 := Lib.hid (heap_below h10x (heap_below hst9 J6.out.1))
     rw [hW10]
     clear hW10 h10x n10 q4 g4 q5 g5
     obtain ⟨j0, i0'⟩ := blk (HB.out _ HX10.out).1
     obtain ⟨j1, i1'⟩ := blk (HB.out _ HX10.out).2
     obtain ⟨j2, i2'⟩ := blk J4.out
     obtain ⟨j3, i3'⟩ := blk J10.out
     go_wp2_with (first
      | (go_at_call 111; refine (HD.out _ HX10.out).mono ?_; rintro e w7 ⟨v7, rfl, hv7, hst7⟩; obtain ⟨a7, c7, rfl⟩ := hv7.slice; have hb7 := below_from HX10.out hst7; obtain ⟨q8, g8⟩ := blk (heap_below hst7 J10.out); have HV7 := Lib.hid hv7; clear hv7; obtain ⟨q9, g9⟩ := blk (HB.out _ hb7).2)
      | (go_at_call 112; refine (HCl.out _ _ _ HV7.out).mono ?_; rintro e w8 ⟨v8, rfl, hv8, hst8⟩; obtain ⟨a8, c8, rfl⟩ := hv8.slice; have hb8 := below_from hb7 hst8; have HV8 := Lib.hid hv8; clear hv8; obtain ⟨q6, g6⟩ := blk (HB.out _ hb8).2))
     refine bodyPost_ret (results_st_e rfl _ _ (w.heap.size + 1) (.slice a8 D.length c8) (.int .i64 E.line) (.int .i64 E.col) (.int .i64 E.line) (.int .i64 E.col) (.int .i64 0) (.int .i64 0) (.int .i64 0) rfl rfl (by simp [heap_set, putIn, (HB.out _ hb8).2])) rfl ?_
     unfold StSaid
     rw [HR2.out]
     have hfin := H1.out.trans (hb8.mono hs1)
     have hv8 := HV8.out
     have z4 := hb7.size
     exact ⟨_, rfl, (SliceR.stable (rdLin_stable _) hv8 (by (repeat' (first | (with_reducible exact Keeps.refl _ _) | (with_reducible refine Keeps.set ?_ ?_ _) | (with_reducible refine Keeps.alloc ?_ _) | (with_reducible refine Keeps.drew ?_) | (first | fail) | (simp; omega)))) (fun b h _ => (by have h' := h; (try simp at h'); omega))), by (repeat' (first | (with_reducible exact Below.refl _ _) | (with_reducible assumption) | (with_reducible refine Below.alloc ?_ ?_ _) | (with_reducible refine Below.drew ?_) | (with_reducible refine drewN_below ?_) | (with_reducible refine Below.setCell ?_ ?_ _) | go_size))⟩
  ·obtain ⟨hsp, hX⟩ := F1 hj0
   generalize keyS s (backK s) = X at hX hok ⊢
   clear F1 F2 F3 F4
   obtain ⟨lines, anc, foc, on, off⟩ := s
   simp only at hc hfoc hl hil hq HV HM HB HD0 HOw HEn HAT HL hvc hvm i1 k0 hsp hX
   subst hfoc hc
   simp only [Bool.not_true] at hq HB k0 HM hX hsp
   obtain ⟨p0, f0⟩ := blk k0
   obtain ⟨p1, f1⟩ := blk k1
   have HV := 0
   have HR2 : Hid (X = (closedS (deleteL lines ⟨i, (j : Int) - 1⟩ ⟨i, j⟩) ⟨i, (j : Int) - 1⟩, 0)) := Lib.hid hX
   have hF := keyok_fits hok hX
   have HD : Hid _ := Lib.hid fun W => HD0.out ⟨i, (j : Int) - 1⟩ ⟨i, j⟩ W hsp
   have HCl : Hid _ := Lib.hid fun v' n W => HCl0.out ⟨i, (j : Int) - 1⟩ _ v' n W hF
   generalize deleteL lines ⟨i, (j : Int) - 1⟩ ⟨i, j⟩ = D at HD HCl HR2
   have z1 : (0 : Int) < (j : Int) := by omega
   clear h hs hf ho hof k0 k1 hB hm HEr0 hac hl hj hx hAt hX hsp hj0 HD0 HCl0 hvc hil hok HFr HOw HEn hml hsl hfl HL hF
   go_enter Tryz.func51, Tryz.ntmps51
   go_upto_region 8 with (go_at_call 70; refine (HM.out _ hw0).mono ?_; rintro e w2 ⟨rfl, hst2⟩; have hb2 := below_from hw0 hst2; obtain ⟨q0, g0⟩ := blk (HB.out _ hb2).1; obtain ⟨q1, g1⟩ := blk (HB.out _ hb2).2)
   obtain ⟨W4, hW4⟩ : ∃ W4, (w2.alloc (.cells #[.int .i64 i, .int .i64 j] 24)).alloc (.cells #[.int .i64 i, .int .i64 ((j : Int) - 1)] 24) = W4 := ⟨_, rfl⟩
   have hz2 := hb2.size
   have HX : Hid (Below W1.heap.size W1 W4) := Lib.hid (hW4 ▸ hb2.trans ((below2 (Below.refl _ _) _ _).mono hz2))
   have J2 : Hid (W4.heap[w2.heap.size]? = some (.cells #[.int .i64 i, .int .i64 j] 24)) := Lib.hid (hW4 ▸ heap_old _ _ (heap_new _ _ rfl))
   have J3 : Hid (W4.heap[w2.heap.size + 1]? = some (.cells #[.int .i64 i, .int .i64 ((j : Int) - 1)] 24)) := Lib.hid (hW4 ▸ heap_new _ _ (by simp))
   rw [hW4]
   clear hW4 q0 g0 q1 g1 p0 f0 p1 f1
   obtain ⟨j0, i0'⟩ := blk (HB.out _ HX.out).1
   obtain ⟨j1, i1'⟩ := blk (HB.out _ HX.out).2
   obtain ⟨j2, i2⟩ := blk J2.out
   obtain ⟨j3, i3⟩ := blk J3.out
   go_wp2_with (first
    | (go_at_call 111; refine (HD.out _ HX.out).mono ?_; rintro e w7 ⟨v7, rfl, hv7, hst7⟩; obtain ⟨a7, c7, rfl⟩ := hv7.slice; have hb7 := below_from HX.out hst7; obtain ⟨q8, g8⟩ := blk (heap_below hst7 J3.out); have HV7 := Lib.hid hv7; clear hv7; obtain ⟨q9, g9⟩ := blk (HB.out _ hb7).2)
    | (go_at_call 112; refine (HCl.out _ _ _ HV7.out).mono ?_; rintro e w8 ⟨v8, rfl, hv8, hst8⟩; obtain ⟨a8, c8, rfl⟩ := hv8.slice; have hb8 := below_from hb7 hst8; have HV8 := Lib.hid hv8; clear hv8; obtain ⟨q6, g6⟩ := blk (HB.out _ hb8).2))
   refine bodyPost_ret (results_st_e rfl _ _ (w.heap.size + 1) (.slice a8 D.length c8) (.int .i64 i) (.int .i64 ((j : Int) - 1)) (.int .i64 i) (.int .i64 ((j : Int) - 1)) (.int .i64 0) (.int .i64 0) (.int .i64 0) rfl rfl (by simp [heap_set, putIn, (HB.out _ hb8).2])) rfl ?_
   unfold StSaid
   rw [HR2.out]
   have hfin := H1.out.trans (hb8.mono hs1)
   have hv8 := HV8.out
   have z4 := hb7.size
   exact ⟨_, rfl, (SliceR.stable (rdLin_stable _) hv8 (by (repeat' (first | (with_reducible exact Keeps.refl _ _) | (with_reducible refine Keeps.set ?_ ?_ _) | (with_reducible refine Keeps.alloc ?_ _) | (with_reducible refine Keeps.drew ?_) | (first | fail) | (simp; omega)))) (fun b h _ => (by have h' := h; (try simp at h'); omega))), by (repeat' (first | (with_reducible exact Below.refl _ _) | (with_reducible assumption) | (with_reducible refine Below.alloc ?_ ?_ _) | (with_reducible refine Below.drew ?_) | (with_reducible refine drewN_below ?_) | (with_reducible refine Below.setCell ?_ ?_ _) | go_size))⟩
 ·rw [decide_eq_false hc] at hq
  have hX : keyS s (backK s) = keyS s (eraseK s) := by unfold backK eraseK; rw [if_neg hc, if_neg hc]
  rw [hX]
  obtain ⟨X, hX2⟩ : ∃ X, keyS s (eraseK s) = X := ⟨_, rfl⟩
  rw [hX2] at HEr0 ⊢
  rw [hm] at HM
  have HEr : Hid (∀ W, Below W1.heap.size W1 W → Calls Tryz.prog 46 #[stV v s] W (StSaid X W)) := HEr0
  obtain ⟨p0, f0⟩ := blk k0
  obtain ⟨p1, f1⟩ := blk k1
  obtain ⟨va, vc, rfl⟩ := h.slice
  clear h hs hf ho hof k0 k1 hB hm HEr0 hX hX2 hc hok
  go_enter Tryz.func51, Tryz.ntmps51
  go_wp2_with (first
   | (go_at_call 70; refine (HM.out _ hw0).mono ?_; rintro e w2 ⟨rfl, hst2⟩; have hb2 := below_from hw0 hst2; obtain ⟨q0, g0⟩ := blk (HB.out _ hb2).1; obtain ⟨q1, g1⟩ := blk (HB.out _ hb2).2)
   | (go_at_call 46; refine (HEr.out _ hb2).mono ?_; rintro e w8 ⟨v8, rfl, hv8, hst8⟩; obtain ⟨a8, c8, rfl⟩ := hv8.slice; have hb8 := below_from hb2 hst8; have HV8 := Lib.hid hv8; clear hv8; obtain ⟨q6, g6⟩ := blk (HB.out _ hb8).2; have z2 := hb2.size))
  refine bodyPost_ret (results_st_e rfl _ _ (w.heap.size + 1) (.slice a8 X.1.lines.length c8) (.int .i64 X.1.anc.line) (.int .i64 X.1.anc.col) (.int .i64 X.1.foc.line) (.int .i64 X.1.foc.col) (.int .i64 X.1.on) (.int .i64 X.1.off) (.int .i64 X.2) rfl rfl (by simp [heap_set, putIn, (HB.out _ hb8).2])) rfl ?_
  have hfin := H1.out.trans (hb8.mono hs1)
  have hv8 := HV8.out
  exact ⟨_, rfl, (SliceR.stable (rdLin_stable _) hv8 (by (repeat' (first | (with_reducible exact Keeps.refl _ _) | (with_reducible refine Keeps.set ?_ ?_ _) | (with_reducible refine Keeps.alloc ?_ _) | (with_reducible refine Keeps.drew ?_) | (first | fail) | (simp; omega)))) (fun b h _ => (by have h' := h; (try simp at h'); omega))), by (repeat' (first | (with_reducible exact Below.refl _ _) | (with_reducible assumption) | (with_reducible refine Below.alloc ?_ ?_ _) | (with_reducible refine Below.drew ?_) | (with_reducible refine drewN_below ?_) | (with_reducible refine Below.setCell ?_ ?_ _) | go_size))⟩
end Go.Proofs.YtpndnbjpnajaaaaGreatDoor
namespace Go.Proofs.Qw
open Go.RowKit Go.Proofs.YtpndnbjpnajaaaaGreatDoor
theorem flat_cells {d : Doc} {a b : Ps} (h : spanD d a b = true) : flat (partD d a b).1 = cellsD d a b := by
 unfold partD cellsD flat
 rw [if_pos h, if_pos h]
 exact flat_parts d _
end Go.Proofs.Qw
namespace Go.Proofs.Qw
open Go.RowKit Go.Proofs.YtpndnbjpnajaaaaGreatDoor
def exRc (r : Int) : Cel := ⟨r, 0, []⟩
def exT0 : Doc := [⟨0, [], 0, [exRc 97, exRc 98]⟩, ⟨0, [0], 0, []⟩]
def exTa : Doc := [⟨0, [], 0, [exRc 97, exRc 120, exRc 121, exRc 98]⟩, ⟨0, [0], 0, []⟩]
def exTb : Doc := [⟨0, [], 0, [exRc 97, exRc 120, exRc 98]⟩, ⟨0, [0], 0, []⟩]
def exTc : Doc := [⟨0, [], 0, [exRc 97]⟩, ⟨0, [], 0, [exRc 98]⟩, ⟨0, [0], 0, []⟩]
def exTd : Doc := [⟨0, [], 0, [exRc 97]⟩]
def exTp : Doc := [⟨0, [], 0, [exRc 97, exRc 98]⟩, ⟨0, [], 0, []⟩]
def exS1 : St := ⟨exT0, ⟨0, 1⟩, ⟨0, 1⟩, 0, 0⟩
def exS2 : St := ⟨exT0, ⟨0, 1⟩, ⟨1, 0⟩, 0, 0⟩
def exS3 : St := ⟨exT0, ⟨1, 0⟩, ⟨1, 0⟩, 0, 0⟩
def exSa : St := ⟨exTa, ⟨0, 3⟩, ⟨0, 3⟩, 0, 0⟩
def exSb : St := ⟨exTb, ⟨0, 2⟩, ⟨0, 2⟩, 0, 0⟩
def exSc : St := ⟨exTc, ⟨1, 0⟩, ⟨1, 0⟩, 0, 0⟩
def exSd : St := ⟨exTd, ⟨0, 1⟩, ⟨0, 1⟩, 0, 0⟩
def exSp : St := ⟨exTp, ⟨1, 0⟩, ⟨1, 0⟩, 0, 0⟩
set_option maxRecDepth 10000 in
theorem ex0_may : mayD exT0 = true := by decide +kernel
theorem exa_may : mayD exTa = true := by decide +kernel
theorem ex_text : keyS exS1 (textK exS1 ⟨#[120, 121]⟩) = (exSa, 0) := by decide +kernel
theorem ex_back : keyS exSa (backK exSa) = (exSb, 0) := by decide +kernel
theorem ex_para : keyS exS1 (paraK exS1) = (exSc, 0) := by decide +kernel
theorem ex_erase : keyS exS2 (eraseK exS2) = (exSd, 0) := by decide +kernel
theorem ex_out : keyS exS3 (paraK exS3) = (exSp, 0) := by decide +kernel
theorem ex_forth : keyS exS3 (forthK exS3) = (noS, 7) := by decide +kernel
end Go.Proofs.Qw
namespace Go.Proofs.Qw
open Go.RowKit Go.Proofs.YtpndnbjpnajaaaaGreatDoor
def plainF (c : Int) : Int × Bool := if c = 9 ∨ c = 12 ∨ c = 13 then (32, true) else if c = 10 then (c, true) else (c, !(classF c == 1))
theorem plain_clean (c : Int) : (if (plainF c).2 = true then some (plainF c).1 else none) = cleanR c := by
 unfold plainF cleanR
 split
 ·rfl
 ·split
  ·rename_i h; subst h; rfl
  ·by_cases h : classF c = 1
   ·rw [if_pos h]; simp [h]
   ·rw [if_neg h]; simp [h]
end Go.Proofs.Qw
namespace Go.Proofs.YtpndnbjpnajaaaaGreatDoor
open Go.RowKit
open Go.Proofs.Qw
attribute [local go_sem] Oper.semAt_some
theorem rowRune : RowT Tryz.prog 59 21 1 := RowT.mk' (y := 4) Tryz.underlying59 (by kernel_rfl) (by decide) (z := .int .i32 0) (by decide)
theorem eltRune : Elt 21 1 (rdOf encRune) := elt_of _ (by decide) (fun _ => rfl) (fun x u hu => by simp [encRune] at hu; subst hu; rfl)
theorem oneV_rune (r : Int) : ∀ u ∈ [Value.int .i32 r], u.oneCell' = true := fun u hu => by simp at hu; subst hu; rfl
theorem plain_any (c : Int) (w : World) :
  Calls Tryz.prog 138 #[.int .i32 c] w fun e w' => e = .returned (.tuple #[.int .i32 (plainF c).1, .bool (plainF c).2]) ∧ w' = w := by
 have HC := Lib.hid (class_any c w)
 by_cases h9 : c = 9
 ·subst h9
  clear HC
  go_enter Tryz.func138, Tryz.ntmps138
  go_wp2_with fail
  go_ret2
  rw [show plainF 9 = (32, true) from if_pos (by decide)]
  exact ⟨rfl, rfl⟩
 by_cases h12 : c = 12
 ·subst h12
  clear HC
  go_enter Tryz.func138, Tryz.ntmps138
  go_wp2_with fail
  go_ret2
  rw [show plainF 12 = (32, true) from if_pos (by decide)]
  exact ⟨rfl, rfl⟩
 by_cases h13 : c = 13
 ·subst h13
  clear HC
  go_enter Tryz.func138, Tryz.ntmps138
  go_wp2_with fail
  go_ret2
  rw [show plainF 13 = (32, true) from if_pos (by decide)]
  exact ⟨rfl, rfl⟩
 by_cases h10 : c = 10
 ·subst h10
  clear HC
  go_enter Tryz.func138, Tryz.ntmps138
  go_wp2_with fail
  go_ret2
  rw [show plainF 10 = (10, true) from (if_neg (by decide)).trans (if_pos rfl)]
  exact ⟨rfl, rfl⟩
 have HR : Hid (plainF c = (c, !(classF c == 1))) := Lib.hid (by unfold plainF; rw [if_neg (by omega), if_neg h10])
 have b9 : (c == 9) = false := by simpa using h9
 have b12 : (c == 12) = false := by simpa using h12
 have b13 : (c == 13) = false := by simpa using h13
 have b10 : (c == 10) = false := by simpa using h10
 clear h9 h12 h13 h10
 generalize classF c = k at *
 go_enter Tryz.func138, Tryz.ntmps138
 go_wp2_with (go_at_call 202; refine HC.out.mono ?_; rintro e w' ⟨rfl, rfl⟩)
 go_ret2
 rw [HR.out]
 exact ⟨rfl, rfl⟩
theorem runesGo_width (s : ByteArray) : ∀ (f pos : Nat), (runesGo s f pos).length ≤ f
 | 0, _ => Nat.le_refl _
 | f + 1, pos => by
  unfold runesGo
  split
  ·have := runesGo_width s f (pos + (Utf8.decode s pos).2)
   rw [List.length_cons]; omega
  ·simp
theorem runesB_length (s : ByteArray) : (runesB s).length ≤ s.size := runesGo_width s _ _
set_option maxRecDepth 100000 in
set_option maxHeartbeats 4000000 in
theorem each_any (s : ByteArray) (g : Nat) (F : Int → Int × Bool) (eg : ∀ args w, (callFunc g args).run Tryz.prog w = .ok (.enter g args) w)
  (hF : ∀ c w, Calls Tryz.prog g #[.int .i32 c] w fun e w' => e = .returned (.tuple #[.int .i32 (F c).1, .bool (F c).2]) ∧ w' = w) (w : World) (hs : s.size ≤ 10000000) :
  Calls Tryz.prog 137 #[.string s, .func (.func g) #[] #[]] w fun e w' => ∃ v, e = .returned v ∧ RunesR true w' (fun b => w.heap.size ≤ b) v ((runesB s).filterMap fun c => if (F c).2 = true then some (F c).1 else none) ∧ Below w.heap.size w w' := by
 obtain ⟨G, hG⟩ : ∃ G : Int → Option Int, (fun c => if (F c).2 = true then some (F c).1 else none) = G := ⟨_, rfl⟩
 have HG : Hid (∀ c, G c = if (F c).2 = true then some (F c).1 else none) := Lib.hid fun c => by rw [← hG]
 rw [hG]
 have HF := Lib.hid hF
 clear hG hF
 go_enter Tryz.func137, Tryz.ntmps137
 go_wp2_with fail
 go_loopw [5] (fun l wr => ∃ (pos fuel : Nat) (acc : List Int), Hid (RunesR true wr (fun b => w.heap.size + 1 ≤ b) l acc) ∧ wr.heap[w.heap.size]? = some (.stringIter s pos) ∧ Hid (Below w.heap.size w wr) ∧ Hid (acc ++ (runesGo s fuel pos).filterMap G = (runesB s).filterMap G) ∧ s.size ≤ pos + fuel) (fun _ wr => s.size - wr.iterPos w.heap.size)
 case atStart => exact ⟨0, s.size, [], Lib.hid (SliceR.nil _ _ _ _ _ _), World.iter_heap w s 0, Lib.hid ((Below.refl _ _).alloc (Nat.le_refl _) _), Lib.hid rfl, by omega⟩
 case round =>
  obtain ⟨pos, fuel, acc, HO, hit, HB, HA, hfu⟩ := hrel
  have hsz : w.heap.size < wr.heap.size := (Array.getElem?_eq_some_iff.1 hit).1
  by_cases hp : pos < s.size
  ·have hwd := Lib.decode_width_pos s pos hp
   have hd1 := decode_le s pos
   have hnx : ∀ ty, (Instr.next (.pointer (some ⟨w.heap.size, 0, none⟩)) true ty).run Tryz.prog wr = .ok (.tuple #[.bool true, .int .i64 pos, .int .i32 (Utf8.decode s pos).1]) (wr.iterAt w.heap.size s (pos + (Utf8.decode s pos).2)) := fun ty => Lib.run_next_any_at wr w.heap.size s pos ty hit hp
   have hit2 := Lib.iterAt_heap wr w.heap.size s pos (pos + (Utf8.decode s pos).2) hit
   have hbw2 := Lib.below_iterAt HB.out (k := w.heap.size) (Nat.le_refl _) s (pos + (Utf8.decode s pos).2)
   have hsz2 : (wr.iterAt w.heap.size s (pos + (Utf8.decode s pos).2)).heap.size = wr.heap.size := Lib.iterAt_size _ _ _ _
   have HO2 := Lib.hid (SliceR.stable (w' := wr.iterAt w.heap.size s (pos + (Utf8.decode s pos).2)) (S' := fun b => w.heap.size + 1 ≤ b) (rdOf_stable encRune) HO.out (Keeps.only (b := w.heap.size) hsz2 (fun d hd => Lib.iterAt_other _ _ _ _ _ hd) (by simp)) (fun _ h _ => h))
   obtain ⟨f, rfl⟩ : ∃ f, fuel = f + 1 := ⟨fuel - 1, by omega⟩
   have HA2 : Hid (acc ++ (((Utf8.decode s pos).1 : Int) :: runesGo s f (pos + (Utf8.decode s pos).2)).filterMap G = (runesB s).filterMap G) := Lib.hid (by have := HA.out; unfold runesGo at this; rw [if_pos hp] at this; exact this)
   obtain ⟨wi, hwi⟩ : ∃ wi, wr.iterAt w.heap.size s (pos + (Utf8.decode s pos).2) = wi := ⟨_, rfl⟩
   rw [hwi] at hnx hit2 hbw2 hsz2 HO2
   obtain ⟨c, hcc⟩ : ∃ c : Int, ((Utf8.decode s pos).1 : Int) = c := ⟨_, rfl⟩
   rw [hcc] at hnx HA2
   obtain ⟨pos', hpp⟩ : ∃ pos', pos + (Utf8.decode s pos).2 = pos' := ⟨_, rfl⟩
   have hpl : pos + 1 ≤ pos' := by omega
   rw [hpp] at hit2 HA2
   obtain ⟨r, t, hrt⟩ : ∃ r t, F c = (r, t) := ⟨_, _, rfl⟩
   have HFc : Hid (∀ W, Calls Tryz.prog g #[.int .i32 c] W fun e w' => e = .returned (.tuple #[.int .i32 r, .bool t]) ∧ w' = W) := Lib.hid fun W => by
    have := HF.out c W
    rw [hrt] at this
    exact this
   have hGc := HG.out c
   rw [hrt] at hGc
   have hm1 : (wi.iterPos w.heap.size) = pos' := by simp only [World.iterPos, hit2]
   have hm0 : (wr.iterPos w.heap.size) = pos := by simp only [World.iterPos, hit]
   have HB2 := Lib.hid hbw2
   have HIT := Lib.hid hit2
   have hlw : w.heap.size < wi.heap.size := (Array.getElem?_eq_some_iff.1 hit2).1
   have HM := Lib.hid (And.intro hm0 hm1)
   clear hit hit2 hbw2 HB HA HO HF HG hcc hpp hwi hrt hd1 hwd hm0 hm1 hsz2
   cases t
   ·have HA3 : Hid (acc ++ (runesGo s f pos').filterMap G = (runesB s).filterMap G) := Lib.hid (by have := HA2.out; rw [List.filterMap_cons, hGc] at this; exact this)
    clear hGc
    go_wp2_with (go_at_fn g; refine (HFc.out _).mono ?_; rintro e w1 ⟨rfl, rfl⟩)
    go_roundw
    case rel => exact ⟨pos', f, acc, HO2, HIT.out, HB2, HA3, by omega⟩
    case measure => rw [HM.out.1, HM.out.2]; omega
   ·have HA3 : Hid ((acc ++ [r]) ++ (runesGo s f pos').filterMap G = (runesB s).filterMap G) := Lib.hid (by have := HA2.out; rw [List.filterMap_cons, hGc] at this; simpa using this)
    have HL : Hid (acc.length + 1 ≤ 10000000) := Lib.hid (by
     have h1 := congrArg List.length HA3.out
     have h2 := List.length_filterMap_le G (runesB s)
     have h3 := runesB_length s
     simp only [List.length_append, List.length_singleton] at h1
     omega)
    clear hGc
    go_wp2_with (first
     | (go_at_fn g; refine (HFc.out _).mono ?_; rintro e w1 ⟨rfl, rfl⟩)
     | (at_builtin; refine wpList_append_R _ rfl _ _ 59 59 rfl rowRune eltRune (w.heap.size + 1) _ _ (xs := acc) (ys := [r]) (news := [.int .i32 r]) rfl rfl (SliceR.below (rdOf_stable _) HO2.out ((Below.refl _ _).alloc (Nat.le_refl _) _)) (by simp; omega) (src_at rowRune _ _ rfl (oneV_rune r) 1 rfl) (NewsR.one rfl rfl) (by have := HL.out; simp only [List.length_singleton]; omega) ?_; intro v' w2 hR hB' _ _; have HR := Lib.hid hR; have HB' := Lib.hid hB'; clear hR hB'))
    have hi2 := (HB'.out.block w.heap.size (Nat.lt_succ_self _)).trans (heap_old _ _ HIT.out)
    go_roundw
    case rel => exact ⟨pos', f, acc ++ [r], HR, hi2, Lib.hid ((HB2.out.alloc HB2.out.size _).trans (HB'.out.mono (Nat.le_succ _))), HA3, by omega⟩
    case measure => rw [HM.out.1]; simp only [World.iterPos, hi2]; omega
  ·have hnx : ∀ ty, (Instr.next (.pointer (some ⟨w.heap.size, 0, none⟩)) true ty).run Tryz.prog wr = .ok (.tuple #[.bool false]) wr := fun ty => Lib.run_next_end_at wr w.heap.size s pos ty hit hp
   have HA2 : Hid (acc = (runesB s).filterMap G) := Lib.hid (by
    have := HA.out
    cases fuel with
    | zero => simpa [runesGo] using this
    | succ f => unfold runesGo at this; rw [if_neg hp] at this; simpa using this)
   clear HF HG HA hit
   go_wp2_with fail
   go_ret
   refine ⟨_, rfl, ?_, HB.out⟩
   rw [← HA2.out]
   exact SliceR.stable (rdOf_stable _) HO.out (Keeps.refl _ _) (fun b h _ => Nat.le_of_succ_le h)
theorem clean_any (s : ByteArray) (w : World) (hs : s.size ≤ 10000000) :
  Calls Tryz.prog 61 #[.string s] w fun e w' => ∃ v, e = .returned v ∧ RunesR true w' (fun b => w.heap.size ≤ b) v (cleanB s) ∧ Below w.heap.size w w' := by
 have HE := Lib.hid (each_any s 138 plainF (enters_of Tryz.func138 (by kernel_rfl) rfl) plain_any w hs)
 have e : (fun c => if (plainF c).2 = true then some (plainF c).1 else none) = cleanR := funext plain_clean
 rw [e] at HE
 clear e
 go_enter Tryz.func61, Tryz.ntmps61
 go_wp2_with (go_at_call 137; refine HE.out.mono ?_; rintro e w2 ⟨v, rfl, hv, hb⟩)
 go_ret
 exact ⟨_, rfl, hv, hb⟩
set_option maxRecDepth 100000 in
set_option maxHeartbeats 4000000 in
theorem cellsOf_any (s : ByteArray) (b : Int) (h : List UInt8) (w : World) (hs : s.size ≤ 10000000) :
  Calls Tryz.prog 128 #[.string s, .int .i64 b, .string ⟨h.toArray⟩] w fun e w' => ∃ v, e = .returned v ∧ CelsR true w' (fun b => w.heap.size ≤ b) v (cellsOf (cleanB s) b h) ∧ Below w.heap.size w w' := by
 have HRu := Lib.hid (clean_any s w hs)
 have hln : (cleanB s).length ≤ s.size := Nat.le_trans (List.length_filterMap_le _ _) (runesB_length s)
 obtain ⟨d, hd⟩ : ∃ d, cleanB s = d := ⟨_, rfl⟩
 rw [hd] at HRu hln ⊢
 clear hd
 go_enter Tryz.func128, Tryz.ntmps128
 go_wp2_with (go_at_call 61; refine HRu.out.mono ?_; rintro e w2 ⟨v2, rfl, hv2, hb2⟩; obtain ⟨a2, c2, rfl, hc2, hm2, hx2⟩ := runes_shape hv2; have HX := Lib.hid hx2; clear hv2 hx2)
 have HW2 := Lib.hid hb2
 unfold maxLen at hm2
 clear hb2
 go_loopw [7, 13] (fun out z wr => ∃ k : Nat, k ≤ d.length ∧ z = .int .i64 k ∧ Hid (CelsR true wr (fun b => w2.heap.size ≤ b) out (cellsOf (d.take k) b h)) ∧ Below w2.heap.size w2 wr) (fun _ z _ => d.length - (intOf z).toNat)
 case atStart => exact ⟨0, Nat.zero_le _, rfl, Lib.hid (SliceR.nil _ _ _ _ _ _), Below.refl _ _⟩
 case round =>
  obtain ⟨k, hk, rfl, HO, hb⟩ := hrel
  by_cases hlt : k < d.length
  ·obtain ⟨x, hx, _⟩ := getOf d k hlt
   obtain ⟨b1, o1, rfl, hz1, hcell⟩ := HX.out k x hx
   have hcl := (hb.cell hz1).trans hcell
   have HT : Hid (cellsOf (d.take (k + 1)) b h = cellsOf (d.take k) b h ++ [⟨x, b, h⟩]) := Lib.hid (by unfold cellsOf; rw [take_some hx, List.map_append]; rfl)
   have HL : Hid ((cellsOf (d.take k) b h).length ≤ 10000000) := Lib.hid (by unfold cellsOf; rw [List.length_map, List.length_take]; omega)
   have i0 : (0 : Int) ≤ (k : Int) := Int.natCast_nonneg _
   have i1 : (k : Int) < (d.length : Int) := by omega
   have hbs := hb.size
   clear hx hz1 hcell
   go_wp2_with (at_builtin; refine wpList_append_R _ rfl _ _ 40 40 rfl rowCell eltCell w2.heap.size _ _ (xs := cellsOf (d.take k) b h) (ys := [(⟨x, b, h⟩ : Cel)]) (news := [.int .i32 x, .int .i64 b, .string ⟨h.toArray⟩]) rfl rfl (SliceR.below (rdOf_stable _) HO.out ((Below.refl _ _).alloc (Nat.le_refl _) _)) (by simp; omega) (src_at rowCell _ _ rfl (fun u hu => by simp at hu; rcases hu with rfl | rfl | rfl <;> rfl) 1 rfl) (NewsR.one rfl rfl) (by have := HL.out; simp only [List.length_singleton]; omega) ?_; intro v' w4 hR hB' _ _; rw [← HT.out] at hR; have HR := Lib.hid hR; have HB' := Lib.hid hB'; clear hR hB')
   go_roundw
   case rel => exact ⟨k + 1, hlt, by go_num, HR, (hb.alloc hbs _).trans HB'.out⟩
   case measure => simp [intOf]; omega
  ·obtain rfl : k = d.length := by omega
   have HBB := Lib.hid hb
   clear hb
   go_wp2_with fail
   go_ret
   have h9 := HO.out
   rw [List.take_length] at h9
   exact ⟨_, rfl, SliceR.stable (rdOf_stable _) h9 (Keeps.refl _ _) (fun b h _ => Nat.le_trans HW2.out.size h), below_from HW2.out HBB.out⟩
end Go.Proofs.YtpndnbjpnajaaaaGreatDoor
namespace Go.Proofs.YtpndnbjpnajaaaaGreatDoor
open Go.RowKit
open Go.Proofs.Qw
attribute [local go_sem] Oper.semAt_some
theorem st_val_st (w : World) (v : Value) (s : St) (u : Value) (t : TypeId) : ∃ W1, ((w.alloc (.cells #[v, .int .i64 s.anc.line, .int .i64 s.anc.col, .int .i64 s.foc.line, .int .i64 s.foc.col, .int .i64 s.on, .int .i64 s.off] 26)).alloc (.cells #[u] t)).alloc (.cells #[.slice none 0 0, .int .i64 0, .int .i64 0, .int .i64 0, .int .i64 0, .int .i64 0, .int .i64 0] 26) = W1 ∧ Below w.heap.size w W1 ∧ w.heap.size + 3 = W1.heap.size ∧
  W1.heap[w.heap.size]? = some (.cells #[v, .int .i64 s.anc.line, .int .i64 s.anc.col, .int .i64 s.foc.line, .int .i64 s.foc.col, .int .i64 s.on, .int .i64 s.off] 26) ∧ W1.heap[w.heap.size + 1]? = some (.cells #[u] t) ∧ W1.heap[w.heap.size + 2]? = some (.cells #[.slice none 0 0, .int .i64 0, .int .i64 0, .int .i64 0, .int .i64 0, .int .i64 0, .int .i64 0] 26) :=
 ⟨_, rfl, below3 (Below.refl _ _) _ _ _, by simp, heap_old _ _ (heap_old _ _ (heap_new _ _ rfl)), heap_old _ _ (heap_new _ _ (by simp)), heap_new _ _ (by simp)⟩
end Go.Proofs.YtpndnbjpnajaaaaGreatDoor
namespace Go.Proofs.YtpndnbjpnajaaaaGreatDoor
open Go.RowKit
open Go.Proofs.Qw
attribute [local go_sem] Oper.semAt_some
theorem flat_cons (l : Lin) (d : Doc) : flat (l :: d) = l.cells ++ flat d := by simp [flat]
set_option maxRecDepth 100000 in
set_option maxHeartbeats 4000000 in
theorem typBits_any (v : Value) (s : St) (w : World) (S : Nat → Prop) (h : LinsR w S v s.lines) (he : EnvT w) (hs : Small s.lines) (hf : Fits s.lines) (hm : mayS s = true) :
  Calls Tryz.prog 129 #[stV v s] w fun e w' => e = .returned (.int .i64 (typB s)) ∧ Below w.heap.size w w' := by
 obtain ⟨W1, hW1, hB, hz, k0⟩ := one_st w v s
 have HB : Hid (∀ W, Below W1.heap.size W1 W → W.heap[w.heap.size]? = some (.cells #[v, .int .i64 s.anc.line, .int .i64 s.anc.col, .int .i64 s.foc.line, .int .i64 s.foc.col, .int .i64 s.on, .int .i64 s.off] 26)) := Lib.hid fun W hW => heap_below hW k0
 have hs1 := hB.size
 have H1 := Lib.hid hB
 have hw0 : Below W1.heap.size W1 W1 := Below.refl _ _
 have HV : Hid (∀ W, Below W1.heap.size W1 W → LinsR W S v s.lines) := Lib.hid fun W hW => h.below (rdLin_stable _) (hB.trans (hW.mono hs1))
 have HE : Hid (∀ W, Below W1.heap.size W1 W → EnvT W) := Lib.hid fun W hW => (he.below hB).below hW
 have HSp : Hid (∀ W, Below W1.heap.size W1 W → Calls Tryz.prog 28 #[stV v s] W fun e w' => e = .returned (.tuple #[.agg #[.int .i64 (spanS s).1.line, .int .i64 (spanS s).1.col], .agg #[.int .i64 (spanS s).2.line, .int .i64 (spanS s).2.col]]) ∧ Below W.heap.size W w') := Lib.hid fun W hW => stSpan_any v s W
 obtain ⟨hMo, hsp, _, _, hiA⟩ := out_facts hm
 obtain ⟨i, n, l, hA, hl, hnl, hml, hla⟩ := may_at (mayS_at hm).1 hiA
 have HPt : Hid (∀ W, Below W1.heap.size W1 W → Calls Tryz.prog 57 #[v, posV (spanS s).1, posV (spanS s).2] W (DocSaid (partD s.lines (spanS s).1 (spanS s).2) W)) := Lib.hid fun W hW => docPart_any v s.lines _ _ W S (HV.out W hW) (HE.out W hW) hs hf
 have hfl := flat_cells hsp
 have hR : typB s = bits .or .i64 (bits .andNot .i64 (headB (flat (partD s.lines (spanS s).1 (spanS s).2).1) (aroundF l.cells n).1) s.off) s.on := by
  unfold typB
  rw [hfl, hla, hA]
  rfl
 have HR := Lib.hid hR
 obtain ⟨px, pe, hpx⟩ : ∃ px pe, partD s.lines (spanS s).1 (spanS s).2 = (px, pe) := ⟨_, _, rfl⟩
 rw [hpx] at HPt HR
 have HPL : Hid (px.length ≤ 1000000) := Lib.hid (by
  obtain ⟨_, i2, j2, p2, q2, _, _, e1, e2, g1, g2, _⟩ := span_at hsp
  have h9 := hsp
  rw [e1, e2] at h9
  have h8 := part_length h9
  rw [← e1, ← e2, hpx] at h8
  have := (List.getElem?_eq_some_iff.1 g2).1
  have := hf.1
  simp only at h8
  omega)
 obtain ⟨B, hBB⟩ : ∃ B, (spanS s).2 = B := ⟨_, rfl⟩
 rw [hA, hBB] at HSp HPt
 have HP : Hid (∀ p : Ps, posV p = .agg #[.int .i64 p.line, .int .i64 p.col]) := Lib.hid fun _ => rfl
 rw [HP.out, HP.out] at HPt
 obtain ⟨x, y, hxy⟩ : ∃ x y, aroundF l.cells n = (x, y) := ⟨_, _, rfl⟩
 rw [hxy] at HR
 have HXY := Lib.hid hxy
 have hil := (List.getElem?_eq_some_iff.1 hl).1
 obtain ⟨va, vc, rfl, hvc, hvm, hx⟩ := lins_shape h
 obtain ⟨b, o, la, lc, ca, cc, rfl, hAt⟩ := hx i l hl
 have HAT : Hid (∀ W, Below W1.heap.size W1 W → LinAt W S b (o + i * 4) l la lc ca cc) := Lib.hid fun W hW => hAt.below (hB.trans (hW.mono hs1))
 unfold maxLen at hvm
 have i0 : (0 : Int) ≤ (i : Int) := Int.natCast_nonneg _
 have i1 : (i : Int) < (s.lines.length : Int) := by omega
 obtain ⟨p0, f0⟩ := blk k0
 obtain ⟨r, hr⟩ : ∃ r, typB s = r := ⟨_, rfl⟩
 rw [hr] at HR ⊢
 clear hr h he hs hf hm hMo hsp hiA hl hml hla hA hfl hpx hBB hxy hx hAt k0 hB hR
 go_enter Tryz.func129, Tryz.ntmps129
 go_wp2_with (go_at_call 28; refine (HSp.out _ hw0).mono ?_; rintro e w2 ⟨rfl, hb2⟩; obtain ⟨q0, g0⟩ := blk (HB.out _ hb2))
 obtain ⟨w3, hw3⟩ : ∃ w3, (w2.alloc (.cells #[.int .i64 i, .int .i64 n] 24)).alloc (.cells #[.int .i64 B.line, .int .i64 B.col] 24) = w3 := ⟨_, rfl⟩
 rw [hw3]
 have hb23 : Below w2.heap.size w2 w3 := hw3 ▸ ((Below.refl _ _).alloc (Nat.le_refl _) _).alloc (by simp) _
 have n3 : w3.heap[w2.heap.size]? = some (.cells #[.int .i64 i, .int .i64 n] 24) := hw3 ▸ heap_old _ _ (heap_new _ _ rfl)
 have n4 : w3.heap[w2.heap.size + 1]? = some (.cells #[.int .i64 B.line, .int .i64 B.col] 24) := hw3 ▸ heap_new _ _ (by simp)
 have hb3 := below_from hb2 hb23
 have HB3 : Hid (∀ W, Below w3.heap.size w3 W → W.heap[w2.heap.size]? = some (.cells #[.int .i64 i, .int .i64 n] 24) ∧ W.heap[w2.heap.size + 1]? = some (.cells #[.int .i64 B.line, .int .i64 B.col] 24)) := Lib.hid fun W hW => ⟨heap_below hW n3, heap_below hW n4⟩
 have HAr : Hid (∀ W, Below w3.heap.size w3 W → Calls Tryz.prog 76 #[.slice ca l.cells.length cc, .int .i64 n] W fun e w' => e = .returned (.tuple #[.int .i64 x, .string ⟨y.toArray⟩]) ∧ Below W.heap.size W w') := Lib.hid fun W hW => by
  have := around_any _ l.cells n W S (HAT.out W (below_from hb3 hW)).cellsR hnl
  rw [HXY.out] at this
  exact this
 clear n3 n4 q0 g0 p0 f0 hw3
 refine wp_region_grew w3.heap.size (by kernel_rfl) (by kernel_rfl) ?_
 refine BigFrame.wpQuiet_want (by kernel_rfl) (fun K hK => ?_)
 refine quiet_val ?_ (fun W hW => ?_) (hK _ ?_)
 rotate_left 1
 ·skip
  go_simp
  try rfl
 clear hK
 clear K
 try simp only [Act.put, qI, qX, qY]
 refine BigFrame.wpQuiet_want (by kernel_rfl) (fun K hK => ?_)
 refine quiet_val ?_ (fun W hW => ?_) (hK _ ?_)
 rotate_left 1
 ·skip
  obtain ⟨p0, f0⟩ := blk (HB.out _ (below_from hb3 hW))
  obtain ⟨p3, f3⟩ := blk (HB3.out _ hW).1
  obtain ⟨_, _, _, _, c3, _, _⟩ := HAT.out _ (below_from hb3 hW)
  go_simp
  try rfl
 clear hK
 clear K
 try simp only [Act.put, qI, qX, qY]
 refine BigFrame.wpQuiet_want (by kernel_rfl) (fun K hK => ?_)
 refine quiet_val ?_ (fun W hW => ?_) (hK _ ?_)
 rotate_left 1
 ·skip
  go_simp
  try rfl
 clear hK
 clear K
 try simp only [Act.put, qI, qX, qY]
 refine BigFrame.wpQuiet_want (by kernel_rfl) (fun K hK => ?_)
 refine quiet_val ?_ (fun W hW => ?_) (hK _ ?_)
 rotate_left 1
 ·skip
  obtain ⟨p0, f0⟩ := blk (HB.out _ (below_from hb3 hW))
  obtain ⟨p3, f3⟩ := blk (HB3.out _ hW).1
  obtain ⟨_, _, _, _, c3, _, _⟩ := HAT.out _ (below_from hb3 hW)
  go_simp
  try rfl
 clear hK
 clear K
 try simp only [Act.put, qI, qX, qY]
 refine BigFrame.wpQuiet_want (by kernel_rfl) (fun K hK => ?_)
 refine quiet_val ?_ (fun W hW => ?_) (hK _ ?_)
 rotate_left 1
 ·skip
  go_simp
  try rfl
 clear hK
 clear K
 try simp only [Act.put, qI, qX, qY]
 refine BigFrame.wpQuiet_want (by kernel_rfl) (fun K hK => ?_)
 refine quiet_val ?_ (fun W hW => ?_) (hK _ ?_)
 rotate_left 1
 ·skip
  go_simp
  try rfl
 clear hK
 clear K
 try simp only [Act.put, qI, qX, qY]
 refine BigFrame.wpQuiet_want (by kernel_rfl) (fun K hK => ?_)
 refine quiet_val ?_ (fun W hW => ?_) (hK _ ?_)
 rotate_left 1
 ·skip
  obtain ⟨p0, f0⟩ := blk (HB.out _ (below_from hb3 hW))
  obtain ⟨p3, f3⟩ := blk (HB3.out _ hW).1
  obtain ⟨_, _, _, _, c3, _, _⟩ := HAT.out _ (below_from hb3 hW)
  go_simp
  try rfl
 clear hK
 clear K
 try simp only [Act.put, qI, qX, qY]
 refine BigFrame.wpQuiet_want (by kernel_rfl) (fun K hK => ?_)
 refine quiet_val ?_ (fun W hW => ?_) (hK _ ?_)
 rotate_left 1
 ·skip
  go_simp
  try rfl
 clear hK
 clear K
 try simp only [Act.put, qI, qX, qY]
 refine BigFrame.wpQuiet_want (by kernel_rfl) (fun K hK => ?_)
 refine quiet_val ?_ (fun W hW => ?_) (hK _ ?_)
 rotate_left 1
 ·skip
  obtain ⟨p0, f0⟩ := blk (HB.out _ (below_from hb3 hW))
  obtain ⟨p3, f3⟩ := blk (HB3.out _ hW).1
  obtain ⟨_, _, _, _, c3, _, _⟩ := HAT.out _ (below_from hb3 hW)
  go_simp
  try rfl
 clear hK
 clear K
 try simp only [Act.put, qI, qX, qY]
 refine BigFrame.wpQuiet_want (by kernel_rfl) (fun K hK => ?_)
 refine quiet_calls (f := ?_) (args := ?_) ?_ (fun W hW => ?_) (fun W hW => ?_) (hK _ ?_)
 rotate_left 3
 ·go_simp
  constructor <;> rfl
 ·refine (HAr.out _ hW).mono ?_
  rintro e W2 ⟨rfl, hbW⟩
  refine ⟨?_, below_from hW hbW⟩
  rfl
 clear hK
 clear K
 try simp only [Act.put, qI, qX, qY]
 refine BigFrame.wpQuiet_want (by kernel_rfl) (fun K hK => ?_)
 refine quiet_val ?_ (fun W hW => ?_) (hK _ ?_)
 rotate_left 1
 ·skip
  go_simp
  try rfl
 clear hK
 clear K
 try simp only [Act.put, qI, qX, qY]
 refine BigFrame.wpQuiet_want (by kernel_rfl) (fun K hK => ?_)
 refine quiet_val ?_ (fun W hW => ?_) (hK _ ?_)
 rotate_left 1
 ·skip
  go_simp
  try rfl
 clear hK
 clear K
 try simp only [Act.put, qI, qX, qY]
 refine BigFrame.wpQuiet_want (by kernel_rfl) (fun K hK => ?_)
 refine quiet_val ?_ (fun W hW => ?_) (hK _ ?_)
 rotate_left 1
 ·skip
  go_simp
  try rfl
 clear hK
 clear K
 try simp only [Act.put, qI, qX, qY]
 refine BigFrame.wpQuiet_want (by kernel_rfl) (fun K hK => ?_)
 refine quiet_val ?_ (fun W hW => ?_) (hK _ ?_)
 rotate_left 1
 ·skip
  go_simp
  try rfl
 clear hK
 clear K
 try simp only [Act.put, qI, qX, qY]
 refine BigFrame.wpQuiet_want (by kernel_rfl) (fun K hK => ?_)
 refine quiet_val ?_ (fun W hW => ?_) (hK _ ?_)
 rotate_left 1
 ·skip
  go_simp
  try rfl
 clear hK
 clear K
 try simp only [Act.put, qI, qX, qY]
 refine wpQuiet_nil (fun X6 hstX6 => ?_)
 have hcX6 := below_from hb3 hstX6
 obtain ⟨p0, f0⟩ := blk (HB.out _ hcX6)
 obtain ⟨p3, f3⟩ := blk (HB3.out _ hstX6).1
 obtain ⟨p4, f4⟩ := blk (HB3.out _ hstX6).2
 go_wp2_with (go_at_call 57; refine (HPt.out _ hcX6).mono ?_; intro e w7 hsaid; obtain ⟨v7, rfl, hv7, hst7⟩ := hsaid; obtain ⟨a7, c7, rfl, hc7, hm7, hx7⟩ := lins_shape hv7.read; have HX := Lib.hid hx7; clear hv7 hx7)
 have hb7 := below_from hcX6 hst7
 have HK0 := Lib.hid hb7
 unfold maxLen at hm7
 have hpl := HPL.out
 clear p0 f0 p3 f3 p4 f4
 go_loopw [5, 39] (fun bb z wr => ∃ k : Nat, k ≤ px.length ∧ z = .int .i64 k ∧ bb = .int .i64 x ∧ Hid (headB (flat px) x = headB (flat (px.drop k)) x) ∧ Below w7.heap.size w7 wr) (fun _ z _ => px.length - (intOf z).toNat)
 case atStart => exact ⟨0, Nat.zero_le _, rfl, rfl, Lib.hid rfl, Below.refl _ _⟩
 case round =>
  obtain ⟨k, hk, rfl, rfl, HK, hb⟩ := hrel
  have hbw := below_from hb7 hb
  by_cases hlt : k < px.length
  ·obtain ⟨ln, hln, hdr⟩ := getOf px k hlt
   obtain ⟨b1, o1, la1, lc1, ca1, cc1, rfl, hAk⟩ := HX.out k ln hln
   obtain ⟨_, d0, d1, d2, d3, _, hcR⟩ := hAk.below hb
   rw [hdr, flat_cons] at HK
   have k0' : (0 : Int) ≤ (k : Int) := Int.natCast_nonneg _
   have k1' : (k : Int) < (px.length : Int) := by omega
   cases hce : ln.cells with
   | nil =>
    rw [hce] at d3 HK
    rw [List.nil_append] at HK
    simp only [List.length_nil] at d3
    clear hcR hAk hln hdr hce
    go_wp2_with fail
    go_roundw
    case rel => exact ⟨k + 1, hlt, by go_num, rfl, HK, hb.alloc hb.size _⟩
    case measure => simp [intOf]; omega
   | cons cel cels =>
    rw [hce] at d3 HK hcR
    obtain ⟨a9, c9, e9, _, _, hx9⟩ := cels_shape hcR
    cases e9
    obtain ⟨b9, o9, rfl, hz9, u0, u1, u2⟩ := hx9 0 cel rfl
    rw [Nat.zero_mul, Nat.add_zero] at u0 u1 u2
    have u1' : ∀ X, (wr.alloc X).cell? ⟨b9, o9 + 1, none⟩ = some (.int .i64 cel.bits) := fun X => (World.cell?_of_block (heap_alloc_old _ _ hz9)).trans u1
    have hp1 : (0 : Int) < (((cel :: cels).length : Nat) : Int) := by simp
    have hp2 : 0 < (cel :: cels).length := by simp
    have HKK : Hid (headB (flat px) x = cel.bits) := Lib.hid (HK.out.trans rfl)
    obtain ⟨m, hm⟩ : ∃ m, (cel :: cels).length = m := ⟨_, rfl⟩
    rw [hm] at d3 hp1 hp2
    have r0 := on1 (HB.out _ hbw)
    clear hcR hAk hln hdr hce HK hx9 u0 u1 u2
    go_wp2_with fail
    go_ret
    rw [HR.out, HKK.out]
    exact ⟨rfl, H1.out.trans ((hbw.alloc hbw.size _).mono hs1)⟩
  ·obtain rfl : k = px.length := by omega
   have HKK : Hid (headB (flat px) x = x) := Lib.hid (by have := HK.out; rw [List.drop_length] at this; exact this)
   obtain ⟨p0, f0⟩ := blk (HB.out _ hbw)
   clear HK
   go_wp2_with fail
   go_ret
   rw [HR.out, HKK.out]
   exact ⟨rfl, H1.out.trans (hbw.mono hs1)⟩
set_option maxRecDepth 100000 in
set_option maxHeartbeats 8000000 in
theorem text1_any (Bt Bs : Nat) (v : Value) (s : St) (t : ByteArray) (n : Nat) (a : Option Addr) (c : Nat) (w : World) (S : Nat → Prop) (ht : w.heap[Bt]? = some (.cells #[.string t] 9)) (hst : w.heap[Bs]? = some (.cells #[v, .int .i64 s.anc.line, .int .i64 s.anc.col, .int .i64 s.foc.line, .int .i64 s.foc.col, .int .i64 s.on, .int .i64 s.off] 26)) (hv : LinsR w S v s.lines) (he : EnvT w) (hs : Small s.lines) (hf : Fits s.lines) (hm : mayS s = true)
  (h : DocR true w (fun b => n ≤ b) (.slice a (outS s).length c) (outS s)) (hn : n ≤ w.heap.size) (hts : t.size ≤ 1000000) :
  Calls Tryz.prog 126 #[.slice a (outS s).length c, posV (spanS s).1, .pointer (some ⟨Bt, 0, none⟩), .pointer (some ⟨Bs, 0, none⟩)] w (DocPB n (textK s t) w) := by
 obtain ⟨hMo, hsp, hiO, _, hiA⟩ := out_facts hm
 obtain ⟨i, p, l, hA, hl, hpl, hml, hla⟩ := may_at hMo hiO
 have hso := (may_small hMo).1
 have hfo := (may_small hMo).2
 obtain ⟨x, y, hxy⟩ : ∃ x y, aroundF l.cells p = (x, y) := ⟨_, _, rfl⟩
 have hyl : y.length ≤ 1000000 := by
  have h9 : (aroundF l.cells p).2 = y := by rw [hxy]
  rw [← h9]
  unfold aroundF
  simp only
  split
  ·rename_i h1
   have hme : (l.cells.getD (p - 1) default) ∈ l.cells := by
    rw [List.getD_eq_getElem?_getD, List.getElem?_eq_getElem (show p - 1 < l.cells.length by omega)]
    exact List.getElem_mem _
   exact hso.2.2 l (mem_of_at hl) _ hme
  ·simp
 have HR : Hid (textK s t = if 8192 < t.size then ([], ⟨i, p⟩, 10) else if cleanB t = [] then ([], ⟨i, p⟩, 7) else insertD (cellsOf (cleanB t) (typB s) y) (outS s) ⟨i, p⟩) := Lib.hid (by
  unfold textK
  rw [hla, hA]
  simp only [Int.toNat_natCast]
  rw [hxy])
 have hcl : (cleanB t).length ≤ t.size := Nat.le_trans (List.length_filterMap_le _ _) (runesB_length t)
 have HXY := Lib.hid hxy
 have HOL := Lib.hid hl
 obtain ⟨O, hO⟩ : ∃ O, outS s = O := ⟨_, rfl⟩
 rw [hO] at h hl hso hfo HR HOL
 rw [hO, hA]
 obtain ⟨W1, hW1, hB, hz, k0, k1⟩ := two_pos w (.int .i64 i) (.int .i64 p) (.int .i64 0) (.int .i64 0)
 have hs1 := hB.size
 have kt := heap_below hB ht
 have ks := heap_below hB hst
 have HB : Hid (∀ W, Below W1.heap.size W1 W → W.heap[w.heap.size]? = some (.cells #[.int .i64 (⟨i, p⟩ : Ps).line, .int .i64 (⟨i, p⟩ : Ps).col] 24) ∧ W.heap[w.heap.size + 1]? = some (.cells #[.int .i64 0, .int .i64 0] 24) ∧ W.heap[Bt]? = some (.cells #[.string t] 9) ∧ W.heap[Bs]? = some (.cells #[v, .int .i64 s.anc.line, .int .i64 s.anc.col, .int .i64 s.foc.line, .int .i64 s.foc.col, .int .i64 s.on, .int .i64 s.off] 26)) := Lib.hid fun W hW => ⟨heap_below hW k0, heap_below hW k1, heap_below hW kt, heap_below hW ks⟩
 have hw0 : Below W1.heap.size W1 W1 := Below.refl _ _
 have hE1 := he.below hB
 have HCln : Hid (∀ W, Below W1.heap.size W1 W → Calls Tryz.prog 61 #[.string t] W fun e w' => ∃ v, e = .returned v ∧ RunesR true w' (fun b => W.heap.size ≤ b) v (cleanB t) ∧ Below W.heap.size W w') := Lib.hid fun W _ => clean_any t W (by omega)
 have HBi : Hid (∀ W, Below W1.heap.size W1 W → Calls Tryz.prog 129 #[stV v s] W fun e w' => e = .returned (.int .i64 (typB s)) ∧ Below W.heap.size W w') := Lib.hid fun W hW => typBits_any v s W S (hv.below (rdLin_stable _) (hB.trans (hW.mono hs1))) (hE1.below hW) hs hf hm
 have HOf : Hid (∀ b W, Below W1.heap.size W1 W → Calls Tryz.prog 128 #[.string t, .int .i64 b, .string ⟨y.toArray⟩] W fun e w' => ∃ v, e = .returned v ∧ CelsR true w' (fun b => W.heap.size ≤ b) v (cellsOf (cleanB t) b y) ∧ Below W.heap.size W w') := Lib.hid fun b W _ => cellsOf_any t b y W (by omega)
 have HIn : Hid (∀ b lv S2 W, Below W1.heap.size W1 W → CelsR false W S2 lv (cellsOf (cleanB t) b y) → Calls Tryz.prog 127 #[.slice a O.length c, .agg #[.int .i64 i, .int .i64 p], lv] W (DocPSaid (insertD (cellsOf (cleanB t) b y) O ⟨i, p⟩) W)) := Lib.hid fun b lv S2 W hW hlv => docInsert_any _ lv O _ ⟨i, p⟩ W (fun b => n ≤ b) S2 (h.below (hB.trans (hW.mono hs1))).read hlv (hE1.below hW) hso hfo (by unfold cellsOf; rw [List.length_map]; omega) (fun c hc => by
  unfold cellsOf at hc
  obtain ⟨r, _, rfl⟩ := List.mem_map.1 hc
  exact hyl)
 obtain ⟨a', c', ee, hvc, hvm, hx⟩ := lins_shape (h.below hB).read
 cases ee
 obtain ⟨b, o, la, lc, ca, cc, rfl, hAt⟩ := hx i l hl
 have HAT : Hid (∀ W, Below W1.heap.size W1 W → LinAt W (fun b => n ≤ b) b (o + i * 4) l la lc ca cc) := Lib.hid fun W hW => hAt.below hW
 have HAr : Hid (∀ W, Below W1.heap.size W1 W → Calls Tryz.prog 76 #[.slice ca l.cells.length cc, .int .i64 p] W fun e w' => e = .returned (.tuple #[.int .i64 x, .string ⟨y.toArray⟩]) ∧ Below W.heap.size W w') := Lib.hid fun W hW => by
  have := around_any _ l.cells p W _ (HAT.out W hW).cellsR hpl
  rw [HXY.out] at this
  exact this
 have hil := (List.getElem?_eq_some_iff.1 hl).1
 unfold maxLen at hvm
 have i0 : (0 : Int) ≤ (i : Int) := Int.natCast_nonneg _
 have i1 : (i : Int) < (O.length : Int) := by omega
 have HP : Hid (∀ p : Ps, posV p = .agg #[.int .i64 p.line, .int .i64 p.col]) := Lib.hid fun _ => rfl
 rw [HP.out]
 have H1 := Lib.hid hB
 have HN := Lib.hid hn
 have HK := Lib.hid k1
 have hBt := (Array.getElem?_eq_some_iff.1 ht).1
 have hBs := (Array.getElem?_eq_some_iff.1 hst).1
 have e1 : ¬ Bt = w.heap.size := by omega
 have e2 : ¬ Bt = w.heap.size + 1 := by omega
 have e3 : ¬ Bs = w.heap.size := by omega
 have e4 : ¬ Bs = w.heap.size + 1 := by omega
 have e5 : ¬ w.heap.size + 1 = Bt := by omega
 have e6 : ¬ w.heap.size + 1 = Bs := by omega
 obtain ⟨p0, f0⟩ := blk k0
 obtain ⟨p1, f1⟩ := blk k1
 obtain ⟨p2, f2⟩ := blk kt
 obtain ⟨va, vc, rfl⟩ := hv.slice
 obtain ⟨tb, htb⟩ : ∃ tb, typB s = tb := ⟨_, rfl⟩
 rw [htb] at HBi HR
 obtain ⟨cl, hcl2⟩ : ∃ cl, cleanB t = cl := ⟨_, rfl⟩
 rw [hcl2] at HCln HOf HIn HR hcl
 have HOf := Lib.hid (fun W hW => HOf.out tb W hW)
 have HIn := Lib.hid (fun lv S2 W hW h9 => HIn.out tb lv S2 W hW h9)
 clear ht hst hv he hs hf hm h hn hMo hsp hiO hiA hA hl hpl hml hla hso hfo hxy hyl hO k0 k1 kt ks hB hE1 hx hAt htb hcl2
 by_cases h8 : 8192 < t.size
 ·have HR := Lib.hid (HR.out.trans (if_pos h8))
  have h8i : (8192 : Int) < (t.size : Int) := by omega
  go_enter Tryz.func126, Tryz.ntmps126
  go_wp2_with fail
  go_region
  go_wp2_with fail
  refine bodyPost_ret (results_dpe rfl _ _ (w.heap.size + 1) (.int .i64 i) (.int .i64 p) rfl (by rw [drew_heap]; simp [heap_set, putIn, HK.out])) rfl ?_
  have hfin := H1.out
  exact DocPB.err HR.out (by (repeat' (first | (with_reducible exact Below.refl _ _) | (with_reducible assumption) | (with_reducible refine Below.alloc ?_ ?_ _) | (with_reducible refine Below.drew ?_) | (with_reducible refine drewN_below ?_) | (with_reducible refine Below.setCell ?_ ?_ _) | go_size))) HN.out
 have HR := Lib.hid (HR.out.trans (if_neg h8))
 have h8i : ¬ (8192 : Int) < (t.size : Int) := by omega
 by_cases hc0 : cl = []
 ·have HR := Lib.hid (HR.out.trans (if_pos hc0))
  have hcz : ((cl.length : Nat) : Int) = 0 := by rw [hc0]; rfl
  have hcz2 : (((cl.length : Nat) : Int) == 0) = true := by rw [hcz]; rfl
  clear hc0 hcz
  go_enter Tryz.func126, Tryz.ntmps126
  go_wp2_with (go_at_call 61; refine (HCln.out _ hw0).mono ?_; rintro e w2 ⟨v2, rfl, hv2, hst2⟩; obtain ⟨a2, c2, rfl⟩ := hv2.slice; clear hv2; have hb2 := below_from hw0 hst2; obtain ⟨q0, g0⟩ := blk (HB.out _ hb2).1; obtain ⟨q1, g1⟩ := blk (HB.out _ hb2).2.1; obtain ⟨q2, g2⟩ := blk (HB.out _ hb2).2.2.1)
  go_region
  go_wp2_with fail
  refine bodyPost_ret (results_dpe rfl _ _ (w.heap.size + 1) (.int .i64 i) (.int .i64 p) rfl (by rw [drew_heap]; simp [heap_set, putIn, (HB.out _ hb2).2.1])) rfl ?_
  have hfin := H1.out.trans (hb2.mono hs1)
  exact DocPB.err HR.out (by (repeat' (first | (with_reducible exact Below.refl _ _) | (with_reducible assumption) | (with_reducible refine Below.alloc ?_ ?_ _) | (with_reducible refine Below.drew ?_) | (with_reducible refine drewN_below ?_) | (with_reducible refine Below.setCell ?_ ?_ _) | go_size))) HN.out
 have HR := Lib.hid (HR.out.trans (if_neg hc0))
 have hcz2 : (((cl.length : Nat) : Int) == 0) = false := by
  have : cl.length ≠ 0 := fun e => hc0 (List.length_eq_zero_iff.1 e)
  simp
  exact hc0
 clear hc0
 obtain ⟨Y, q, er, hY⟩ : ∃ Y q er, insertD (cellsOf cl tb y) O ⟨i, p⟩ = (Y, q, er) := ⟨_, _, _, rfl⟩
 rw [hY] at HIn HR
 clear hY
 go_enter Tryz.func126, Tryz.ntmps126
 go_wp2_with (go_at_call 61; refine (HCln.out _ hw0).mono ?_; rintro e w2 ⟨v2, rfl, hv2, hst2⟩; obtain ⟨a2, c2, rfl⟩ := hv2.slice; clear hv2; have hb2 := below_from hw0 hst2; obtain ⟨q0, g0⟩ := blk (HB.out _ hb2).1; obtain ⟨q1, g1⟩ := blk (HB.out _ hb2).2.1; obtain ⟨q2, g2⟩ := blk (HB.out _ hb2).2.2.1)
 refine wp_region_grew w2.heap.size (by kernel_rfl) (by kernel_rfl) ?_
 refine BigFrame.wpQuiet_want (by kernel_rfl) (fun K hK => ?_)
 refine quiet_val ?_ (fun W hW => ?_) (hK _ ?_)
 rotate_left 1
 ·skip
  go_simp
  try rfl
 clear hK
 clear K
 try simp only [Act.put, qI, qX, qY]
 refine BigFrame.wpQuiet_want (by kernel_rfl) (fun K hK => ?_)
 refine quiet_val ?_ (fun W hW => ?_) (hK _ ?_)
 rotate_left 1
 ·skip
  go_simp
  try rfl
 clear hK
 clear K
 try simp only [Act.put, qI, qX, qY]
 refine BigFrame.wpQuiet_want (by kernel_rfl) (fun K hK => ?_)
 refine quiet_val ?_ (fun W hW => ?_) (hK _ ?_)
 rotate_left 1
 ·skip
  obtain ⟨p0, f0⟩ := blk (HB.out _ (below_from hb2 hW)).1
  obtain ⟨_, _, _, _, c3, _, _⟩ := HAT.out _ (below_from hb2 hW)
  go_simp
  try rfl
 clear hK
 clear K
 try simp only [Act.put, qI, qX, qY]
 refine BigFrame.wpQuiet_want (by kernel_rfl) (fun K hK => ?_)
 refine quiet_val ?_ (fun W hW => ?_) (hK _ ?_)
 rotate_left 1
 ·skip
  go_simp
  try rfl
 clear hK
 clear K
 try simp only [Act.put, qI, qX, qY]
 refine BigFrame.wpQuiet_want (by kernel_rfl) (fun K hK => ?_)
 refine quiet_val ?_ (fun W hW => ?_) (hK _ ?_)
 rotate_left 1
 ·skip
  go_simp
  try rfl
 clear hK
 clear K
 try simp only [Act.put, qI, qX, qY]
 refine BigFrame.wpQuiet_want (by kernel_rfl) (fun K hK => ?_)
 refine quiet_val ?_ (fun W hW => ?_) (hK _ ?_)
 rotate_left 1
 ·skip
  obtain ⟨p0, f0⟩ := blk (HB.out _ (below_from hb2 hW)).1
  obtain ⟨_, _, _, _, c3, _, _⟩ := HAT.out _ (below_from hb2 hW)
  go_simp
  try rfl
 clear hK
 clear K
 try simp only [Act.put, qI, qX, qY]
 refine BigFrame.wpQuiet_want (by kernel_rfl) (fun K hK => ?_)
 refine quiet_val ?_ (fun W hW => ?_) (hK _ ?_)
 rotate_left 1
 ·skip
  go_simp
  try rfl
 clear hK
 clear K
 try simp only [Act.put, qI, qX, qY]
 refine BigFrame.wpQuiet_want (by kernel_rfl) (fun K hK => ?_)
 refine quiet_val ?_ (fun W hW => ?_) (hK _ ?_)
 rotate_left 1
 ·skip
  obtain ⟨p0, f0⟩ := blk (HB.out _ (below_from hb2 hW)).1
  obtain ⟨_, _, _, _, c3, _, _⟩ := HAT.out _ (below_from hb2 hW)
  go_simp
  try rfl
 clear hK
 clear K
 try simp only [Act.put, qI, qX, qY]
 refine BigFrame.wpQuiet_want (by kernel_rfl) (fun K hK => ?_)
 refine quiet_calls (f := ?_) (args := ?_) ?_ (fun W hW => ?_) (fun W hW => ?_) (hK _ ?_)
 rotate_left 3
 ·go_simp
  constructor <;> rfl
 ·refine (HAr.out _ (below_from hb2 hW)).mono ?_
  rintro e W2 ⟨rfl, hbW⟩
  refine ⟨?_, below_from hW hbW⟩
  rfl
 clear hK
 clear K
 try simp only [Act.put, qI, qX, qY]
 refine BigFrame.wpQuiet_want (by kernel_rfl) (fun K hK => ?_)
 refine quiet_val ?_ (fun W hW => ?_) (hK _ ?_)
 rotate_left 1
 ·skip
  go_simp
  try rfl
 clear hK
 clear K
 try simp only [Act.put, qI, qX, qY]
 refine BigFrame.wpQuiet_want (by kernel_rfl) (fun K hK => ?_)
 refine quiet_val ?_ (fun W hW => ?_) (hK _ ?_)
 rotate_left 1
 ·skip
  go_simp
  try rfl
 clear hK
 clear K
 try simp only [Act.put, qI, qX, qY]
 refine BigFrame.wpQuiet_want (by kernel_rfl) (fun K hK => ?_)
 refine quiet_val ?_ (fun W hW => ?_) (hK _ ?_)
 rotate_left 1
 ·skip
  go_simp
  try rfl
 clear hK
 clear K
 try simp only [Act.put, qI, qX, qY]
 refine BigFrame.wpQuiet_want (by kernel_rfl) (fun K hK => ?_)
 refine quiet_val ?_ (fun W hW => ?_) (hK _ ?_)
 rotate_left 1
 ·skip
  go_simp
  try rfl
 clear hK
 clear K
 try simp only [Act.put, qI, qX, qY]
 refine BigFrame.wpQuiet_want (by kernel_rfl) (fun K hK => ?_)
 refine quiet_val ?_ (fun W hW => ?_) (hK _ ?_)
 rotate_left 1
 ·skip
  go_simp
  try rfl
 clear hK
 clear K
 try simp only [Act.put, qI, qX, qY]
 refine wpQuiet_nil (fun X6 hstX6 => ?_)
 have hcX6 := below_from hb2 hstX6
 clear p0 f0 p1 f1 p2 f2 q0 g0 q1 g1 q2 g2
 obtain ⟨p0, f0⟩ := blk (HB.out _ hcX6).1
 obtain ⟨p1, f1⟩ := blk (HB.out _ hcX6).2.1
 obtain ⟨p2, f2⟩ := blk (HB.out _ hcX6).2.2.1
 obtain ⟨p3, f3⟩ := blk (HB.out _ hcX6).2.2.2
 have hd6 : Below W1.heap.size W1 X6.drew := hcX6.drew
 go_wp2_with fail
 go_region_held3 (fun w' => w'.cell? ⟨w.heap.size, 0, none⟩ = some (.int .i64 i) ∧ w'.cell? ⟨w.heap.size, 1, none⟩ = some (.int .i64 p) ∧ w'.cell? ⟨Bt, 0, none⟩ = some (.string t) ∧ w'.cell? ⟨Bs, 0, none⟩ = some (.slice va s.lines.length vc) ∧ w'.cell? ⟨Bs, 1, none⟩ = some (.int .i64 s.anc.line) ∧ w'.cell? ⟨Bs, 2, none⟩ = some (.int .i64 s.anc.col) ∧ w'.cell? ⟨Bs, 3, none⟩ = some (.int .i64 s.foc.line) ∧ w'.cell? ⟨Bs, 4, none⟩ = some (.int .i64 s.foc.col) ∧ w'.cell? ⟨Bs, 5, none⟩ = some (.int .i64 s.on) ∧ w'.cell? ⟨Bs, 6, none⟩ = some (.int .i64 s.off)) (go_keep)
  ((first
   | (go_at_call 129; refine (HBi.out _ hd6).mono ?_; rintro e w7 ⟨rfl, hst7⟩; have hb7 := below_from hd6 hst7; obtain ⟨r0, s0⟩ := blk (HB.out _ hb7).1; obtain ⟨r1, s1⟩ := blk (HB.out _ hb7).2.1; obtain ⟨r2, s2⟩ := blk (HB.out _ hb7).2.2.1; obtain ⟨r3, s3⟩ := blk (HB.out _ hb7).2.2.2)
   | (go_at_call 128; refine (HOf.out _ hb7).mono ?_; rintro e w8 ⟨v8, rfl, hv8, hst8⟩; have hb8 := below_from hb7 hst8; have HI8 := Lib.hid (fun W hW => HIn.out v8 (fun b => w7.heap.size ≤ b) W hW); have HV8 := Lib.hid (SliceR.read (fun _ _ h => h) hv8); clear hv8; obtain ⟨r4, s4⟩ := blk (HB.out _ hb8).1; obtain ⟨r5, s5⟩ := blk (HB.out _ hb8).2.1; obtain ⟨r6, s6⟩ := blk (HB.out _ hb8).2.2.1; obtain ⟨r7, s7⟩ := blk (HB.out _ hb8).2.2.2)
   | (go_at_call 127; refine (HI8.out _ hb8 HV8.out).mono ?_; intro e w9 hsaid; obtain ⟨v9, he9, hv9, hst9⟩ := hsaid; rw [HP.out] at he9; subst he9; have hb9 := below_from hb8 hst9; have HV9 := Lib.hid hv9; clear hv9; obtain ⟨t0, u0⟩ := blk (HB.out _ hb9).1; obtain ⟨t1, u1⟩ := blk (HB.out _ hb9).2.1; obtain ⟨t2, u2⟩ := blk (HB.out _ hb9).2.2.1; obtain ⟨t3, u3⟩ := blk (HB.out _ hb9).2.2.2)))
 go_wp2_with fail
 have hfin := H1.out.trans (hb9.mono hs1)
 refine bodyPost_ret (results_dpe rfl _ _ (w.heap.size + 1) (.int .i64 q.line) (.int .i64 q.col) rfl (by simp [heap_set, putIn, (HB.out _ hb9).2.1])) rfl ?_
 rw [HR.out]
 have hv9 := HV9.out
 have hz8 := hb8.size
 have hn9 : n ≤ w.heap.size := HN.out
 refine ⟨_, rfl, (SliceR.stable (rdLin_stable _) hv9 (by (repeat' (first | (with_reducible exact Keeps.refl _ _) | (with_reducible refine Keeps.set ?_ ?_ _) | (with_reducible refine Keeps.alloc ?_ _) | (with_reducible refine Keeps.drew ?_) | (first | fail) | (simp; omega)))) (fun b h _ => (by have h' := h; (try simp at h'); omega))), ?_⟩
 refine Below.mono ?_ HN.out
 (repeat' (first | (with_reducible exact Below.refl _ _) | (with_reducible assumption) | (with_reducible refine Below.alloc ?_ ?_ _) | (with_reducible refine Below.drew ?_) | (with_reducible refine drewN_below ?_) | (with_reducible refine Below.setCell ?_ ?_ _) | go_size))
set_option maxRecDepth 100000 in
set_option maxHeartbeats 2000000 in
theorem typText_any (v : Value) (s : St) (t : ByteArray) (w : World) (S : Nat → Prop) (h : LinsR w S v s.lines) (he : EnvT w) (hs : Small s.lines) (hf : Fits s.lines) (hts : t.size ≤ 1000000) :
  Calls Tryz.prog 54 #[stV v s, .string t] w (StSaid (keyS s (textK s t)) w) := by
 obtain ⟨W1, hW1, hB, hz, k0, k1, k2⟩ := st_val_st w v s (.string t) 9
 have HB : Hid (∀ W, Below W1.heap.size W1 W → W.heap[w.heap.size]? = some (.cells #[v, .int .i64 s.anc.line, .int .i64 s.anc.col, .int .i64 s.foc.line, .int .i64 s.foc.col, .int .i64 s.on, .int .i64 s.off] 26) ∧ W.heap[w.heap.size + 2]? = some (.cells #[.slice none 0 0, .int .i64 0, .int .i64 0, .int .i64 0, .int .i64 0, .int .i64 0, .int .i64 0] 26)) := Lib.hid fun W hW => ⟨heap_below hW k0, heap_below hW k2⟩
 have hs1 := hB.size
 have H1 := Lib.hid hB
 have HC := Lib.hid (emptied_any v s 126 #[.pointer (some ⟨w.heap.size + 1, 0, none⟩), .pointer (some ⟨w.heap.size, 0, none⟩)] (textK s t) W1 S (h.below (rdLin_stable _) hB) (he.below hB) hs hf (enters_of Tryz.func126 (by kernel_rfl) rfl)
  (fun hm n W a c hW h1 h2 h3 => text1_any (w.heap.size + 1) w.heap.size v s t n a c W S (heap_below hW k1) (heap_below hW k0) (h.below (rdLin_stable _) (hB.trans (hW.mono hs1))) ((he.below hB).below hW) hs hf hm h3 h2 hts))
 obtain ⟨X, hX⟩ : ∃ X, keyS s (textK s t) = X := ⟨_, rfl⟩
 rw [hX] at HC ⊢
 obtain ⟨p0, f0⟩ := blk k0
 obtain ⟨p1, f1⟩ := blk k1
 obtain ⟨p2, f2⟩ := blk k2
 obtain ⟨va, vc, rfl⟩ := h.slice
 clear h he hs hf hX k0 k1 k2 hB
 go_enter Tryz.func54, Tryz.ntmps54
 go_wp2_with (go_at_call 109; refine HC.out.mono ?_; intro e w2 hsaid; obtain ⟨v2, rfl, hv2, hb2⟩ := hsaid; obtain ⟨a2, c2, rfl⟩ := hv2.slice; have HV2 := Lib.hid hv2; clear hv2; obtain ⟨q2, g2⟩ := blk (HB.out _ hb2).2)
 refine bodyPost_ret (results_st_e rfl _ _ (w.heap.size + 2) (.slice a2 X.1.lines.length c2) (.int .i64 X.1.anc.line) (.int .i64 X.1.anc.col) (.int .i64 X.1.foc.line) (.int .i64 X.1.foc.col) (.int .i64 X.1.on) (.int .i64 X.1.off) (.int .i64 X.2) rfl rfl (by simp [heap_set, putIn, (HB.out _ hb2).2])) rfl ?_
 have hfin := H1.out.trans (hb2.mono hs1)
 have hv2 := HV2.out
 exact ⟨_, rfl, (SliceR.stable (rdLin_stable _) hv2 (by (repeat' (first | (with_reducible exact Keeps.refl _ _) | (with_reducible refine Keeps.set ?_ ?_ _) | (with_reducible refine Keeps.alloc ?_ _) | (with_reducible refine Keeps.drew ?_) | (first | fail) | (simp; omega)))) (fun b h _ => (by have h' := h; (try simp at h'); omega))), by (repeat' (first | (with_reducible exact Below.refl _ _) | (with_reducible assumption) | (with_reducible refine Below.alloc ?_ ?_ _) | (with_reducible refine Below.drew ?_) | (with_reducible refine drewN_below ?_) | (with_reducible refine Below.setCell ?_ ?_ _) | go_size))⟩
end Go.Proofs.YtpndnbjpnajaaaaGreatDoor
