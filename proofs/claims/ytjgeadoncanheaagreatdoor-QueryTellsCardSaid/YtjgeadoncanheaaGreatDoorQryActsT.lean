/- Parts of the proof. -/
import Derived.Test.YtjgeadoncanheaaGreatDoorTypTextT
import Derived.Test.YtjgeadoncanheaaGreatDoorBlkTellsT
import Derived.Test.YtjgeadoncanheaaGreatDoorQryNamesT
import Derived.Test.YtjgeadoncanheaaGreatDoorRefTurnT
set_option linter.unusedVariables false
set_option linter.unusedSimpArgs false
set_option maxHeartbeats 8000000
namespace Go.Proofs.YtjgeadoncanheaaGreatDoor
open Go.RowKit
open Go.Proofs.Qw
attribute [local go_sem] Oper.semAt_some
open _root_.Go.Lib renaming hid → zA
open _root_.And renaming intro → zB
open _root_.Nat renaming le_refl → zC
open _root_.Go.RowKit.Below renaming refl → zE, setCell → zF, alloc → zG, drew → zH
open _root_.Go.BigFrame renaming wpQuiet_want → zI, wpQuiet_skip → zJ
open _root_.List renaming getElem?_eq_some_iff → zK
open _root_.Array renaming getElem?_eq_some_iff → zL
open _root_.Go renaming bodyPost_ret → zM
open _root_.Int renaming natCast_nonneg → zR
open _root_.Go.Act renaming put → zU
open _root_.Go.Proofs.Tryz renaming prog → zV
open _root_.Go.Proofs.YtjgeadoncanheaaGreatDoor renaming jH → zW, jG → zX, jI → zY, jF → qF, jK → qQ, jN → qR
open _root_.Go.Proofs.Qw renaming jY → zZ, jX → qB, xB → qK, yX → qL
open _root_.Go.Proofs.Qw.SliceR renaming stable → qG
open _root_.Go.Proofs.Qw.Keeps renaming refl → qM, alloc → qN, drew → qO, set → qP
set_option maxRecDepth 100000 in
theorem zKM (O : Doc) (A : Ps) (n : Nat) (a : Option Addr) (c : Nat) (w : World) (h : DocR true w (fun b => n ≤ b) (.slice a O.length c) O) (hn : n ≤ w.heap.size) (he : EnvT w) (hs : Small O) (hf : Fits O) (hM : mayD O = true) (hA : isD O A = true) :
  Calls zV 114 #[.slice a O.length c, posV A] w (DocPB n (putK O A (if (yG O A).cells = [] then xH (yG O A) else none) (uK O A)) w) := by
 obtain ⟨i, p, l, rfl, hl, hp, hml, hla⟩ := zCE hM hA;rw [hla];obtain ⟨W1, hW1, hB, hz, k0, k1⟩ := yP w (.int .i64 i) (.int .i64 p) (.int .i64 0) (.int .i64 0);have hs1 := hB.size;obtain ⟨b, o, la, lc, ca, cc, rfl, hb0, hbz, hAt, hfr, cs, hcs⟩ := zCu (h.below hB) hl;have hfl := hf.2 l (vL hl);have hsl := hs.2.2 l (vL hl);have hil := (zK.1 hl).1;have hlen := (h.below hB).len;have hle := zAl hml;have HB : Hid (∀ W, Below W1.heap.size W1 W → W.heap[w.heap.size]? = some (.cells #[.int .i64 (⟨i, p⟩ : Ps).line, .int .i64 (⟨i, p⟩ : Ps).col] 24) ∧ W.heap[w.heap.size + 1]? = some (.cells #[.int .i64 0, .int .i64 0] 24)) := zA fun W hW => ⟨zX hW k0, zX hW k1⟩;have hw0 : Below W1.heap.size W1 W1 := zE _ _;have HOu : Hid (∀ W, Below W1.heap.size W1 W → Calls zV 115 #[.agg #[.int .i64 l.quote, .slice la l.lists.length lc, .int .i64 l.kind, .slice ca l.cells.length cc]] W (vO W (xH l))) := zA fun W hW => zCY l la ca lc cc W W1 (fun b => n ≤ b) hAt.listsR hAt.cellsR hW ((he.below hB).below hW) hfl hsl hml;have HSp : Hid (∀ W, Below W1.heap.size W1 W → Calls zV 116 #[.slice (some ⟨b, o, none⟩) O.length c, .agg #[.int .i64 i, .int .i64 p]] W (DocPSaid (uK O ⟨i, p⟩) W)) := zA fun W hW => zIH _ O ⟨i, p⟩ W (fun b => n ≤ b) (h.below (hB.trans (hW.mono hs1))).read ((he.below hB).below hW) hs hf;have HP : Hid (∀ p : Ps, posV p = .agg #[.int .i64 p.line, .int .i64 p.col]) := zA fun _ => rfl;rw [HP.out];have HO := zA h;have H1 := zA hB;have HN := zA hn;have HL := zA hl;have HAt := zA hAt;have HBN := zA hb0;have hAc := hAt;obtain ⟨_, c0, c1, c2, c3, _, _⟩ := hAt;have i0 : (0 : Int) ≤ (i : Int) := zR _;have i1 : (i : Int) < (O.length : Int) := by omega
 have n1 : ¬ b = w.heap.size := fun e => by rw [e] at hcs; rw [k0] at hcs; cases hcs
 have n2 : ¬ b = w.heap.size + 1 := fun e => by rw [e] at hcs; rw [k1] at hcs; cases hcs
 have HNb := zA (zB n1 n2);obtain ⟨p0, f0⟩ := blk k0;obtain ⟨ro, hro⟩ : ∃ r, xH l = r := ⟨_, rfl⟩;rw [hro] at HOu ⊢;obtain ⟨Y, q, er, hY⟩ : ∃ Y q er, uK O ⟨i, p⟩ = (Y, q, er) := ⟨_, _, _, rfl⟩;rw [hY] at HSp ⊢;unfold maxLen at hlen;have HCS := zA hcs
 have hcn : (Hid (l.cells = []) ∧ (((l.cells.length : Nat) : Int) == 0) = true) ∨ (((l.cells.length : Nat) : Int) == 0) = false := by
  by_cases e : l.cells = []
  ·exact .inl ⟨zA e, by rw [e]; rfl⟩
  ·have : l.cells.length ≠ 0 := fun e2 => e (List.length_eq_zero_iff.1 e2)
   exact .inr (by simp; exact e)
 cases ro with
 | none =>
  have HR : Hid (putK O ⟨i, p⟩ (if l.cells = [] then none else none) (Y, q, er) = (Y, q, er)) := zA (by rw [ite_self]; rfl);rw [HR.out];rcases hcn with ⟨HCE, hcn⟩ | hcn
  ·clear h hB k0 k1 hn he hs hf hM hA hl hla hY hro hcs hAc hfr
   go_enter Tryz.func114, Tryz.ntmps114
   go_wp2_with (first
    | (go_at_call 115; refine (HOu.out _ (hw0.alloc hw0.size _)).mono ?_; rintro e w3 ⟨_, hnone, hst3⟩; obtain rfl := hnone rfl; have hb3 := zW (hw0.alloc hw0.size _) hst3; have m3 := zX hst3 (qF _ _ rfl); have r3 := on1 m3; obtain ⟨t0, u0⟩ := blk1 (HB.out _ hb3).1; obtain ⟨t1, u1⟩ := blk1 (HB.out _ hb3).2; have z3 := hb3.size)
    | (go_at_call 116; refine (HSp.out _ (hb3.alloc hb3.size _)).mono ?_; intro e w4 hsaid; obtain ⟨v4, he4, hv4, hst4⟩ := hsaid; rw [HP.out] at he4; subst he4; have hb4 := zW (hb3.alloc hb3.size _) hst4; have HV4 := zA hv4; clear hv4; obtain ⟨q1, g1⟩ := blk (HB.out _ hb4).2))
   have hfin := H1.out.trans (hb4.mono hs1);refine zM (xA rfl _ _ (w.heap.size + 1) (.int .i64 q.line) (.int .i64 q.col) rfl (by simp [qR, jB, (HB.out _ hb4).2])) rfl ?_;have hv4 := HV4.out;have hn4 : n ≤ w.heap.size := HN.out;refine ⟨_, rfl, (qG (zZ _) hv4 jP (fun b h _ => jM)), ?_⟩;refine Below.mono ?_ HN.out
   ((with_reducible repeat' first | exact zE _ _ | assumption | refine zG ?_ ?_ _ | refine zH ?_ | refine qQ ?_ | refine zF ?_ ?_ _) <;> go_size)
  ·clear h hB k0 k1 hn he hs hf hM hA hl hla hY hro hcs hAc hfr
   go_enter Tryz.func114, Tryz.ntmps114
   go_wp2_with (first
    | (go_at_call 115; refine (HOu.out _ (hw0.alloc hw0.size _)).mono ?_; rintro e w3 ⟨_, hnone, hst3⟩; obtain rfl := hnone rfl; have hb3 := zW (hw0.alloc hw0.size _) hst3; have m3 := zX hst3 (qF _ _ rfl); have r3 := on1 m3; obtain ⟨t0, u0⟩ := blk1 (HB.out _ hb3).1; obtain ⟨t1, u1⟩ := blk1 (HB.out _ hb3).2; have z3 := hb3.size)
    | (go_at_call 116; refine (HSp.out _ (hb3.alloc hb3.size _)).mono ?_; intro e w4 hsaid; obtain ⟨v4, he4, hv4, hst4⟩ := hsaid; rw [HP.out] at he4; subst he4; have hb4 := zW (hb3.alloc hb3.size _) hst4; have HV4 := zA hv4; clear hv4; obtain ⟨q1, g1⟩ := blk (HB.out _ hb4).2))
   have hfin := H1.out.trans (hb4.mono hs1);refine zM (xA rfl _ _ (w.heap.size + 1) (.int .i64 q.line) (.int .i64 q.col) rfl (by simp [qR, jB, (HB.out _ hb4).2])) rfl ?_;have hv4 := HV4.out;have hn4 : n ≤ w.heap.size := HN.out;refine ⟨_, rfl, (qG (zZ _) hv4 jP (fun b h _ => jM)), ?_⟩;refine Below.mono ?_ HN.out
   ((with_reducible repeat' first | exact zE _ _ | assumption | refine zG ?_ ?_ _ | refine zH ?_ | refine qQ ?_ | refine zF ?_ ?_ _) <;> go_size)
 | some l' =>
  rcases hcn with ⟨HCE, hcn⟩ | hcn
  ·have HR : Hid (putK O ⟨i, p⟩ (if l.cells = [] then some l' else none) (Y, q, er) = (O.set i l', ⟨i, p⟩, 0)) := zA (by rw [if_pos HCE.out]; rfl)
   rw [HR.out];clear h hB k0 k1 hn he hs hf hM hA hl hla hY hro hcs hAc hfr;go_enter Tryz.func114, Tryz.ntmps114;go_wp2_with (go_at_call 115; refine (HOu.out _ (hw0.alloc hw0.size _)).mono ?_; rintro e w3 ⟨hsome, _, hst3⟩; obtain ⟨a', b', he', ha', hb'⟩ := hsome _ rfl; obtain ⟨a1, cc1, rfl⟩ := ha'.slice; obtain ⟨a2, cc2, rfl⟩ := hb'.slice; simp only [linV] at he'; subst he'; have hb3 := zW (hw0.alloc hw0.size _) hst3; have m3 := zX hst3 (qF _ _ rfl); have r3 := on1 m3; obtain ⟨t0, u0⟩ := blk1 (HB.out _ hb3).1; obtain ⟨t1, u1⟩ := blk1 (HB.out _ hb3).2; have z3 := hb3.size; have n5 : ¬ b = w3.heap.size := qE; have n6 : ¬ w3.heap.size = b := qE; have n7 : ¬ w.heap.size = b := (fun e => n1 e.symm); have n8 : ¬ w.heap.size + 1 = b := (fun e => n2 e.symm); obtain ⟨_, d0, d1, d2, d3, _, _⟩ := HAt.out.below hb3; have e0 := jR d0; have e1 := jR d1; have e2 := jR d2; have e3 := jR d3; have g3 := fun X k => (blk1 (zX hb3 HCS.out)).2 X k; have g4 := fun k => (blk (zX hb3 HCS.out)).2 k; have n9 : b < w3.heap.size := qE; have HAB := zA (zB ha' hb'); clear ha' hb');have hO3 : DocR true w3 (fun b => n ≤ b ∧ ¬ b = w.heap.size + 1) (.slice (some ⟨b, o, none⟩) O.length c) O := qG (zZ true) (SliceR.bounded (zZ true) HO.out) (Keeps.all (H1.out.trans (hb3.mono hs1))) (fun b h _ => ⟨h.1, fun e => by have := h.2; omega⟩);obtain ⟨W5, hW5, hD5, hk5, hz5, hb5⟩ := zDP hO3 HL.out l' (.slice a1 l'.lists.length cc1) (.slice a2 l'.cells.length cc2) (HAB.out.1.stable (qB _) (qM _ _) (fun b h _ => by have h' : (W1.alloc _).heap.size ≤ b := h; simp at h'; have := HN.out; exact ⟨by omega, by omega⟩)) (HAB.out.2.stable (qB _) (qM _ _) (fun b h _ => by have h' : (W1.alloc _).heap.size ≤ b := h; simp at h'; have := HN.out; exact ⟨by omega, by omega⟩));rw [hW5];have j0 := (hk5 w.heap.size (fun e => HNb.out.1 e.symm)).trans (HB.out _ hb3).1;have j1 := (hk5 (w.heap.size + 1) (fun e => HNb.out.2 e.symm)).trans (HB.out _ hb3).2;have HJ := zA (zB j1 (zB hD5 (zB (hb5 n HBN.out) hz5)));clear hk5 hD5 hb5 hW5 hO3 d0 d1 d2 d3 e0 e1 e2 e3 g3 g4 t0 t1 u0 u1 hz5;obtain ⟨p5, f5⟩ := blk1 j0;obtain ⟨p6, f6⟩ := blk1 j1;go_region;go_wp2_with fail;refine zM (xA rfl _ _ (w.heap.size + 1) (.int .i64 i) (.int .i64 p) rfl (by rw [xG]; simp [qR, jB, zY _ _ HJ.out.1])) rfl ?_;have hD5 := HJ.out.2.1;have hn5 : n ≤ w.heap.size := HN.out;have hfin : Below n w W5 := ((H1.out.trans (hb3.mono hs1)).mono hn5).trans HJ.out.2.2.1;have hzz := hfin.size;refine ⟨_, rfl, ?_, ?_⟩
   ·show DocR true _ _ (.slice (some ⟨b, o, none⟩) O.length c) (O.set i l')
    exact qG (zZ true) hD5 zEe (fun b h _ => h.1)
   ·((with_reducible repeat' first | exact zE _ _ | assumption | refine zG ?_ ?_ _ | refine zH ?_ | refine qQ ?_ | refine zF ?_ ?_ _) <;> go_size)
  ·have HR : Hid (putK O ⟨i, p⟩ (if l.cells = [] then some l' else none) (Y, q, er) = (Y, q, er)) := zA (by rw [if_neg (fun e => by rw [e] at hcn; exact absurd hcn jA)]; rfl)
   rw [HR.out];clear h hB k0 k1 hn he hs hf hM hA hl hla hY hro hcs hAc hfr;go_enter Tryz.func114, Tryz.ntmps114
   go_wp2_with (first
    | (go_at_call 115; refine (HOu.out _ (hw0.alloc hw0.size _)).mono ?_; rintro e w3 ⟨hsome, _, hst3⟩; obtain ⟨a', b', he', ha', hb'⟩ := hsome _ rfl; obtain ⟨a1, cc1, rfl⟩ := ha'.slice; obtain ⟨a2, cc2, rfl⟩ := hb'.slice; simp only [linV] at he'; subst he'; have hb3 := zW (hw0.alloc hw0.size _) hst3; have m3 := zX hst3 (qF _ _ rfl); have r3 := on1 m3; obtain ⟨t0, u0⟩ := blk1 (HB.out _ hb3).1; obtain ⟨t1, u1⟩ := blk1 (HB.out _ hb3).2; have z3 := hb3.size; have n5 : ¬ b = w3.heap.size := qE; have n6 : ¬ w3.heap.size = b := qE; have n7 : ¬ w.heap.size = b := (fun e => n1 e.symm); have n8 : ¬ w.heap.size + 1 = b := (fun e => n2 e.symm); obtain ⟨_, d0, d1, d2, d3, _, _⟩ := HAt.out.below hb3; have e0 := jR d0; have e1 := jR d1; have e2 := jR d2; have e3 := jR d3; have g3 := fun X k => (blk1 (zX hb3 HCS.out)).2 X k; have g4 := fun k => (blk (zX hb3 HCS.out)).2 k; have n9 : b < w3.heap.size := qE; have HAB := zA (zB ha' hb'); clear ha' hb')
    | (go_at_call 116; refine (HSp.out _ (hb3.alloc hb3.size _)).mono ?_; intro e w4 hsaid; obtain ⟨v4, he4, hv4, hst4⟩ := hsaid; rw [HP.out] at he4; subst he4; have hb4 := zW (hb3.alloc hb3.size _) hst4; have HV4 := zA hv4; clear hv4; obtain ⟨q1, g1⟩ := blk (HB.out _ hb4).2))
   have hfin := H1.out.trans (hb4.mono hs1);refine zM (xA rfl _ _ (w.heap.size + 1) (.int .i64 q.line) (.int .i64 q.col) rfl (by simp [qR, jB, (HB.out _ hb4).2])) rfl ?_;have hv4 := HV4.out;have hn4 : n ≤ w.heap.size := HN.out;refine ⟨_, rfl, (qG (zZ _) hv4 jP (fun b h _ => jM)), ?_⟩;refine Below.mono ?_ HN.out
   ((with_reducible repeat' first | exact zE _ _ | assumption | refine zG ?_ ?_ _ | refine zH ?_ | refine qQ ?_ | refine zF ?_ ?_ _) <;> go_size)
set_option maxRecDepth 100000 in
theorem zHc (v : Value) (s : St) (w : World) (S : Nat → Prop) (h : jC w S v s.lines) (he : EnvT w) (hs : Small s.lines) (hf : Fits s.lines) :
  Calls zV 70 #[stV v s] w (StSaid (keyS s (zCG s)) w) := by
 obtain ⟨W1, hW1, hB, hz, k0, k1⟩ := yF w v s;have HB : Hid (∀ W, Below W1.heap.size W1 W → W.heap[w.heap.size]? = some (.cells #[v, .int .i64 s.anc.line, .int .i64 s.anc.col, .int .i64 s.foc.line, .int .i64 s.foc.col, .int .i64 s.on, .int .i64 s.off] 26) ∧ W.heap[w.heap.size + 1]? = some (.cells #[.slice none 0 0, .int .i64 0, .int .i64 0, .int .i64 0, .int .i64 0, .int .i64 0, .int .i64 0] 26)) := zA fun W hW => ⟨zX hW k0, zX hW k1⟩;have hs1 := hB.size;have H1 := zA hB
 have HC := zA (zCe v s 114 #[] (zCG s) W1 S (h.below (zZ _) hB) (he.below hB) hs hf (enters_of Tryz.func114 qC rfl)
  (fun hm n W a c hW h1 h2 h3 => zKM (outS s) (qV s).1 n a c W h3 h2 ((he.below hB).below hW) (zAo (uN hm).1).1 (zAo (uN hm).1).2 (uN hm).1 (uN hm).2.2.1))
 obtain ⟨X, hX⟩ : ∃ X, keyS s (zCG s) = X := ⟨_, rfl⟩;rw [hX] at HC ⊢;obtain ⟨p0, f0⟩ := blk k0;obtain ⟨p1, f1⟩ := blk k1;obtain ⟨va, vc, rfl⟩ := h.slice;clear h he hs hf hX k0 k1 hB;go_enter Tryz.func70, Tryz.ntmps70;go_wp2_with (go_at_call 107; refine HC.out.mono ?_; intro e w2 hsaid; obtain ⟨v2, rfl, hv2, hb2⟩ := hsaid; obtain ⟨a2, c2, rfl⟩ := hv2.slice; have HV2 := zA hv2; clear hv2; obtain ⟨q2, g2⟩ := blk (HB.out _ hb2).2);refine zM (jU rfl _ _ (w.heap.size + 1) (.slice a2 X.1.lines.length c2) (.int .i64 X.1.anc.line) (.int .i64 X.1.anc.col) (.int .i64 X.1.foc.line) (.int .i64 X.1.foc.col) (.int .i64 X.1.on) (.int .i64 X.1.off) (.int .i64 X.2) rfl rfl vV) rfl ?_;have hfin := H1.out.trans (hb2.mono hs1);have hv2 := HV2.out;exact ⟨_, rfl, (qG (zZ _) hv2 jP (fun b h _ => jM)), by ((with_reducible repeat' first | exact zE _ _ | assumption | refine zG ?_ ?_ _ | refine zH ?_ | refine qQ ?_ | refine zF ?_ ?_ _) <;> go_size)⟩
theorem zAX {w w' : World} {r : Option Lin} {e : Ending} (h : vO w r e w') : ∃ q a1 n1 c1 k a2 n2 c2 er, e = .returned (.tuple #[.agg #[.int .i64 q, .slice a1 n1 c1, .int .i64 k, .slice a2 n2 c2], .int .i64 er]) ∧ (er == (0 : Int)) = r.isSome ∧
  (∀ l', r = some l' → q = l'.quote ∧ k = l'.kind ∧ jL true w' (fun b => w.heap.size ≤ b) (.slice a1 n1 c1) l'.lists ∧ jE true w' (fun b => w.heap.size ≤ b) (.slice a2 n2 c2) l'.cells) ∧ Below w.heap.size w w' := by
 obtain ⟨h1, h2, h3⟩ := h;cases r with
 | none => exact ⟨0, none, 0, 0, 0, none, 0, 0, 7, h2 rfl, rfl, fun l' h => xE, h3⟩
 | some l' =>
  obtain ⟨a', b', he, ha, hb⟩ := h1 _ rfl;obtain ⟨a1, c1, rfl⟩ := ha.slice;obtain ⟨a2, c2, rfl⟩ := hb.slice;exact ⟨_, _, _, _, _, _, _, _, 0, he, rfl, fun l'' h => (by cases h; exact ⟨rfl, rfl, ha, hb⟩), h3⟩
set_option maxRecDepth 100000 in
theorem zLt (Bs : Nat) (v : Value) (s : St) (n : Nat) (a : Option Addr) (c : Nat) (w : World) (hst : w.heap[Bs]? = some (.cells #[v, .int .i64 s.anc.line, .int .i64 s.anc.col, .int .i64 s.foc.line, .int .i64 s.foc.col, .int .i64 s.on, .int .i64 s.off] 26)) (h : DocR true w (fun b => n ≤ b) (.slice a (outS s).length c) (outS s)) (hn : n ≤ w.heap.size) (he : EnvT w) (hm : mayS s = true) (hv : ∃ va vn vc, v = .slice va vn vc) (hBn : Bs < n) :
  Calls zV 117 #[.slice a (outS s).length c, posV (qV s).1, .pointer (some ⟨Bs, 0, none⟩)] w (DocPB n (zAy s) w) := by
 obtain ⟨hM, _, hA, _, _⟩ := uN hm;have hs := (zAo hM).1;have hf := (zAo hM).2
 have hR : zAy s = if s.anc = s.foc then putK (outS s) (qV s).1 (if (qV s).1.col = 0 then uC (yG (outS s) (qV s).1) else none)
   (if (xR (outS s) (qV s).1 (-1)).2 = true then cutK (outS s) (xR (outS s) (qV s).1 (-1)).1 (qV s).1 (xR (outS s) (qV s).1 (-1)).1 else ([], (qV s).1, 7)) else (outS s, (qV s).1, 0) := rfl
 obtain ⟨O, hO⟩ : ∃ O, outS s = O := ⟨_, rfl⟩;obtain ⟨A, hAA⟩ : ∃ A, (qV s).1 = A := ⟨_, rfl⟩;rw [hO] at h hM hs hf hR hA ⊢;rw [hAA] at hR hA ⊢;obtain ⟨i, p, l, rfl, hl, hp, hml, hla⟩ := zCE hM hA;rw [hla] at hR;obtain ⟨q, t, hqt⟩ : ∃ q t, xR O ⟨i, p⟩ (-1) = (q, t) := ⟨_, _, rfl⟩;rw [hqt] at hR;simp only at hR;obtain ⟨W1, hW1, hB, hz, k0, k1⟩ := yP w (.int .i64 i) (.int .i64 p) (.int .i64 0) (.int .i64 0);have hs1 := hB.size;have kt := zX hB hst;obtain ⟨b, o, la, lc, ca, cc, rfl, hb0, hbz, hAt, hfr, cs, hcs⟩ := zCu (h.below hB) hl;have hfl := hf.2 l (vL hl);have hsl := hs.2.2 l (vL hl);have hil := (zK.1 hl).1;have hlen := (h.below hB).len;have HB : Hid (∀ W, Below W1.heap.size W1 W → W.heap[w.heap.size]? = some (.cells #[.int .i64 (⟨i, p⟩ : Ps).line, .int .i64 (⟨i, p⟩ : Ps).col] 24) ∧ W.heap[w.heap.size + 1]? = some (.cells #[.int .i64 0, .int .i64 0] 24) ∧ W.heap[Bs]? = some (.cells #[v, .int .i64 s.anc.line, .int .i64 s.anc.col, .int .i64 s.foc.line, .int .i64 s.foc.col, .int .i64 s.on, .int .i64 s.off] 26)) := zA fun W hW => ⟨zX hW k0, zX hW k1, zX hW kt⟩;have hw0 : Below W1.heap.size W1 W1 := zE _ _;have HFr : Hid (∀ W, Below W1.heap.size W1 W → Calls zV 118 #[.agg #[.int .i64 l.quote, .slice la l.lists.length lc, .int .i64 l.kind, .slice ca l.cells.length cc]] W (vO W (uC l))) := zA fun W hW => zIB l la ca lc cc W W1 (fun b => n ≤ b) hAt.listsR hAt.cellsR hW ((he.below hB).below hW) hfl hsl hml
 have HS : Hid (∀ W, Below W1.heap.size W1 W → Calls zV 119 #[.slice (some ⟨b, o, none⟩) O.length c, .agg #[.int .i64 i, .int .i64 p], .int .i64 (-1)] W fun e w' => e = .returned (.tuple #[.agg #[.int .i64 q.line, .int .i64 q.col], .bool t]) ∧ Below W.heap.size W w') := zA fun W hW => by
  have := zGs _ O ⟨i, p⟩ (-1) W w (fun b => n ≤ b) h.read (hB.trans (hW.mono hs1)) hs.1 hs.2.1 jA;rw [hqt] at this;exact this
 have HD : Hid (∀ W, Below W1.heap.size W1 W → Calls zV 120 #[.slice (some ⟨b, o, none⟩) O.length c, .agg #[.int .i64 q.line, .int .i64 q.col], .agg #[.int .i64 i, .int .i64 p]] W (DocSaid (yK O q ⟨i, p⟩) W)) := zA fun W hW => zDi _ O q ⟨i, p⟩ W (fun b => n ≤ b) (h.below (hB.trans (hW.mono hs1))).read ((he.below hB).below hW) hs hf;have HP : Hid (∀ p : Ps, posV p = .agg #[.int .i64 p.line, .int .i64 p.col]) := zA fun _ => rfl;rw [HP.out];have HO := zA h;have H1 := zA hB;have HN := zA hn;have HL := zA hl;have HAt := zA hAt;have HCS := zA hcs;have HR := zA hR;have hAc := hAt;obtain ⟨_, c0, c1, c2, c3, _, _⟩ := hAt;have i0 : (0 : Int) ≤ (i : Int) := zR _;have i1 : (i : Int) < (O.length : Int) := by omega
 have n1 : ¬ b = w.heap.size := fun e => by rw [e] at hcs; rw [k0] at hcs; cases hcs
 have n2 : ¬ b = w.heap.size + 1 := fun e => by rw [e] at hcs; rw [k1] at hcs; cases hcs
 have HBN := zA hb0;have HNb := zA (zB n1 n2);have hg := uZ;have hq := fun (w : World) => zBt s.anc s.foc w;obtain ⟨p0, f0⟩ := blk k0;obtain ⟨va, vn, vc, rfl⟩ := hv;obtain ⟨ro, hro⟩ : ∃ r, uC l = r := ⟨_, rfl⟩;rw [hro] at HFr HR;unfold maxLen at hlen
 have hpz : (((p : Nat) : Int) == 0) = decide (p = 0) := by
  by_cases hp0 : p = 0
  ·subst hp0; rfl
  ·rw [decide_eq_false hp0]; simpa using hp0
 by_cases hc : s.anc = s.foc
 ·rw [if_pos hc] at HR
  rw [decide_eq_true hc] at hq
  have hcase : (p = 0 ∧ ∃ l', ro = some l') ∨ (Hid (putK O ⟨i, p⟩ (if (⟨i, p⟩ : Ps).col = 0 then ro else none) (if t = true then cutK O q ⟨i, p⟩ q else ([], ⟨i, p⟩, 7)) = (if t = true then cutK O q ⟨i, p⟩ q else ([], ⟨i, p⟩, 7))) ∧ ((p = 0 ∧ ro = none) ∨ p ≠ 0)) := by
   by_cases hp0 : p = 0
   ·cases ro with
    | none => exact .inr ⟨zA (by rw [ite_self]; rfl), .inl ⟨hp0, rfl⟩⟩
    | some l' => exact .inl ⟨hp0, l', rfl⟩
   ·exact .inr ⟨zA (by rw [if_neg (by simp only; omega)]; rfl), .inr hp0⟩
  rcases hcase with ⟨hp0, l', rfl⟩ | ⟨HPK, hcase⟩
  ·have HR1 : Hid (zAy s = (O.set i l', ⟨i, p⟩, 0)) := zA (by rw [HR.out, if_pos (show ((p : Nat) : Int) = 0 by omega)]; rfl)
   rw [decide_eq_true hp0] at hpz;clear h hB k0 k1 kt hst hn he hs hf hM hA hl hla hro hcs hAc hfr hR hqt hm hc hO hAA HR hp0 HD;go_enter Tryz.func117, Tryz.ntmps117
   go_wp2_with (first
    | (go_at_call 118; refine (HFr.out _ hw0).mono ?_; rintro e w3 hsaid; obtain ⟨fq, fa1, fn1, fc1, fk, fa2, fn2, fc2, fe, rfl, hfe, HFS, hst3⟩ := zAX hsaid; have HFS := zA HFS; clear hsaid; have hb3 := zW hw0 hst3; have z3 := hb3.size; obtain ⟨t0, u0⟩ := blk1 (HB.out _ hb3).1; (try simp only [Option.isSome_none, Option.isSome_some] at hfe))
    | (go_at_call 119; refine (HS.out _ (hb3.alloc hb3.size _)).mono ?_; rintro e w5 ⟨rfl, hst5⟩; have hb5 := zW (hb3.alloc hb3.size _) hst5; have m5 := zX hst5 (qF w3 _ rfl); have r5 := on1 m5; have z5 := hst5.size; obtain ⟨t2, u2⟩ := blk1 (HB.out _ hb5).1; obtain ⟨t3, u3⟩ := blk1 (HB.out _ hb5).2.1; obtain ⟨t4, u4⟩ := blk1 (HB.out _ hb5).2.2; have zz5 := hb5.size; have n5 : ¬ b = w5.heap.size := qE; have n6 : ¬ w5.heap.size = b := qE; have n7 : ¬ w.heap.size = b := (fun e => n1 e.symm); have n8 : ¬ w.heap.size + 1 = b := (fun e => n2 e.symm); have n9 : b < w5.heap.size := qE; have g4 := fun k => (blk (zX hb5 HCS.out)).2 k; have y1 : ¬ w5.heap.size = w.heap.size + 1 := qE; have y2 : ¬ w.heap.size + 1 = w5.heap.size := qE; obtain ⟨_, d0, d1, d2, d3, _, _⟩ := HAt.out.below hb5; have e0 := jR d0; have e1 := jR d1; have e2 := jR d2; have e3 := jR d3; have g3 := fun X k => (blk1 (zX hb5 HCS.out)).2 X k))
   obtain ⟨rfl, rfl, hi3, hc3⟩ := HFS.out _ rfl;have hb35 : Below w3.heap.size w3 w5 := ((zE _ _).alloc (zC _) _).trans (hst5.mono qT);have hO5 : DocR true w5 (fun b => n ≤ b ∧ ¬ b = w.heap.size + 1) (.slice (some ⟨b, o, none⟩) O.length c) O := qG (zZ true) (SliceR.bounded (zZ true) HO.out) (Keeps.all (H1.out.trans (hb5.mono hs1))) (fun b h _ => ⟨h.1, fun e => by have := h.2; omega⟩);have hi5 := qG (S' := fun b => n ≤ b ∧ ¬ b = w.heap.size + 1) (qB _) (SliceR.below (qB _) hi3 hb35) (qM _ _) (fun b h _ => by have h' : W1.heap.size ≤ b := h; have := HN.out; exact ⟨by omega, by omega⟩);have hc5 := qG (S' := fun b => n ≤ b ∧ ¬ b = w.heap.size + 1) (qB _) (SliceR.below (qB _) hc3 hb35) (qM _ _) (fun b h _ => by have h' : W1.heap.size ≤ b := h; have := HN.out; exact ⟨by omega, by omega⟩);have hl5 := hi5.len.1;have hl6 := hc5.len.1;obtain ⟨W5, hW5, hD5, hk5, hz5, hb5'⟩ := zDP hO5 HL.out l' (.slice fa1 fn1 fc1) (.slice fa2 fn2 fc2) hi5 hc5;rw [hW5];have j0 := (hk5 w.heap.size (fun e => HNb.out.1 e.symm)).trans (HB.out _ hb5).1;have j1 := (hk5 (w.heap.size + 1) (fun e => HNb.out.2 e.symm)).trans (HB.out _ hb5).2.1;have HJ := zA (zB j1 (zB hD5 (zB (hb5' n HBN.out) hz5)));clear hk5 hD5 hb5' hW5 hO5 d0 d1 d2 d3 e0 e1 e2 e3 g3 g4 t0 u0 t2 u2 t3 u3 t4 u4 hz5 hi5 hc5 hi3 hc3 hl5 hl6;obtain ⟨p5, f5⟩ := blk1 j0;obtain ⟨p6, f6⟩ := blk1 j1;go_region;go_wp2_with fail;refine zM (xA rfl _ _ (w.heap.size + 1) (.int .i64 i) (.int .i64 p) rfl (by rw [xG]; simp [qR, jB, zY _ _ HJ.out.1])) rfl ?_;rw [HR1.out];have hD5 := HJ.out.2.1;have hn5 : n ≤ w.heap.size := HN.out;have hfin : Below n w W5 := ((H1.out.trans (hb5.mono hs1)).mono hn5).trans HJ.out.2.2.1;have hzz := hfin.size;refine ⟨_, rfl, ?_, ?_⟩
   ·show DocR true _ _ (.slice (some ⟨b, o, none⟩) O.length c) (O.set i l')
    exact qG (zZ true) hD5 zEe (fun b h _ => h.1)
   ·((with_reducible repeat' first | exact zE _ _ | assumption | refine zG ?_ ?_ _ | refine zH ?_ | refine qQ ?_ | refine zF ?_ ?_ _) <;> go_size)
  ·have HR1 : Hid (zAy s = if t = true then cutK O q ⟨i, p⟩ q else ([], ⟨i, p⟩, 7)) := zA (HR.out.trans HPK.out)
   have HX : Hid (cutK O q ⟨i, p⟩ q = ((yK O q ⟨i, p⟩).1, q, (yK O q ⟨i, p⟩).2)) := zA rfl;obtain ⟨D, er, hD⟩ : ∃ D er, yK O q ⟨i, p⟩ = (D, er) := ⟨_, _, rfl⟩;rw [hD] at HX HD;clear h hB k0 k1 kt hst hn he hs hf hM hA hl hla hro hcs hAc hfr hR hqt hm hc hO hAA HR HPK hD;rcases hcase with ⟨hp0, rfl⟩ | hp0
   ·rw [decide_eq_true hp0] at hpz
    clear hp0;cases t
    ·have HR2 := zA (HR1.out.trans (if_neg jA))
     clear HR1 HD HX;go_enter Tryz.func117, Tryz.ntmps117
     go_wp2_with (first
      | (go_at_call 118; refine (HFr.out _ hw0).mono ?_; rintro e w3 hsaid; obtain ⟨fq, fa1, fn1, fc1, fk, fa2, fn2, fc2, fe, rfl, hfe, HFS, hst3⟩ := zAX hsaid; have HFS := zA HFS; clear hsaid; have hb3 := zW hw0 hst3; have z3 := hb3.size; obtain ⟨t0, u0⟩ := blk1 (HB.out _ hb3).1; (try simp only [Option.isSome_none, Option.isSome_some] at hfe))
      | (go_at_call 119; refine (HS.out _ (hb3.alloc hb3.size _)).mono ?_; rintro e w5 ⟨rfl, hst5⟩; have hb5 := zW (hb3.alloc hb3.size _) hst5; have m5 := zX hst5 (qF w3 _ rfl); have r5 := on1 m5; have z5 := hst5.size; obtain ⟨t2, u2⟩ := blk1 (HB.out _ hb5).1; obtain ⟨t3, u3⟩ := blk1 (HB.out _ hb5).2.1; obtain ⟨t4, u4⟩ := blk1 (HB.out _ hb5).2.2; have zz5 := hb5.size; have n5 : ¬ b = w5.heap.size := qE; have n6 : ¬ w5.heap.size = b := qE; have n7 : ¬ w.heap.size = b := (fun e => n1 e.symm); have n8 : ¬ w.heap.size + 1 = b := (fun e => n2 e.symm); have n9 : b < w5.heap.size := qE; have g4 := fun k => (blk (zX hb5 HCS.out)).2 k; have y1 : ¬ w5.heap.size = w.heap.size + 1 := qE; have y2 : ¬ w.heap.size + 1 = w5.heap.size := qE; obtain ⟨_, d0, d1, d2, d3, _, _⟩ := HAt.out.below hb5; have e0 := jR d0; have e1 := jR d1; have e2 := jR d2; have e3 := jR d3; have g3 := fun X k => (blk1 (zX hb5 HCS.out)).2 X k))
     go_region;go_wp2_with fail;have hfin := H1.out.trans (hb5.mono hs1);refine zM (xA rfl _ _ (w.heap.size + 1) (.int .i64 i) (.int .i64 p) rfl zEh) rfl ?_;exact DocPB.err HR2.out zBK HN.out
    ·have HR2 := zA (HR1.out.trans (if_pos rfl))
     clear HR1;go_enter Tryz.func117, Tryz.ntmps117
     go_wp2_with (first
      | (go_at_call 118; refine (HFr.out _ hw0).mono ?_; rintro e w3 hsaid; obtain ⟨fq, fa1, fn1, fc1, fk, fa2, fn2, fc2, fe, rfl, hfe, HFS, hst3⟩ := zAX hsaid; have HFS := zA HFS; clear hsaid; have hb3 := zW hw0 hst3; have z3 := hb3.size; obtain ⟨t0, u0⟩ := blk1 (HB.out _ hb3).1; (try simp only [Option.isSome_none, Option.isSome_some] at hfe))
      | (go_at_call 119; refine (HS.out _ (hb3.alloc hb3.size _)).mono ?_; rintro e w5 ⟨rfl, hst5⟩; have hb5 := zW (hb3.alloc hb3.size _) hst5; have m5 := zX hst5 (qF w3 _ rfl); have r5 := on1 m5; have z5 := hst5.size; obtain ⟨t2, u2⟩ := blk1 (HB.out _ hb5).1; obtain ⟨t3, u3⟩ := blk1 (HB.out _ hb5).2.1; obtain ⟨t4, u4⟩ := blk1 (HB.out _ hb5).2.2; have zz5 := hb5.size; have n5 : ¬ b = w5.heap.size := qE; have n6 : ¬ w5.heap.size = b := qE; have n7 : ¬ w.heap.size = b := (fun e => n1 e.symm); have n8 : ¬ w.heap.size + 1 = b := (fun e => n2 e.symm); have n9 : b < w5.heap.size := qE; have g4 := fun k => (blk (zX hb5 HCS.out)).2 k; have y1 : ¬ w5.heap.size = w.heap.size + 1 := qE; have y2 : ¬ w.heap.size + 1 = w5.heap.size := qE; obtain ⟨_, d0, d1, d2, d3, _, _⟩ := HAt.out.below hb5; have e0 := jR d0; have e1 := jR d1; have e2 := jR d2; have e3 := jR d3; have g3 := fun X k => (blk1 (zX hb5 HCS.out)).2 X k)
      | (go_at_call 120; refine (HD.out _ (hb5.alloc hb5.size _)).mono ?_; intro e w6 hsaid; obtain ⟨v6, rfl, hv6, hst6⟩ := hsaid; have hb6 := zW (hb5.alloc hb5.size _) hst6; have HV6 := zA hv6; clear hv6; obtain ⟨q0, s0⟩ := blk (HB.out _ hb6).1; obtain ⟨q1, s1⟩ := blk (HB.out _ hb6).2.1; have m6 := zX hst6 (qF w5 _ rfl); obtain ⟨q2, s2⟩ := blk m6))
     go_region;go_wp2_with fail;have hfin := H1.out.trans (hb6.mono hs1);refine zM (xA rfl _ _ (w.heap.size + 1) (.int .i64 q.line) (.int .i64 q.col) rfl (by rw [xG]; simp [qR, jB, (HB.out _ hb6).2.1])) rfl ?_;rw [HR2.out, HX.out];have hv6 := HV6.out;have hn4 : n ≤ w.heap.size := HN.out;refine ⟨_, rfl, (qG (zZ _) hv6 jP (fun b h _ => jM)), ?_⟩;refine Below.mono ?_ HN.out
     ((with_reducible repeat' first | exact zE _ _ | assumption | refine zG ?_ ?_ _ | refine zH ?_ | refine qQ ?_ | refine zF ?_ ?_ _) <;> go_size)
   ·rw [decide_eq_false hp0] at hpz
    clear hp0;cases t
    ·have HR2 := zA (HR1.out.trans (if_neg jA))
     clear HR1 HD HX;go_enter Tryz.func117, Tryz.ntmps117
     go_wp2_with (first
      | (go_at_call 118; refine (HFr.out _ hw0).mono ?_; rintro e w3 hsaid; obtain ⟨fq, fa1, fn1, fc1, fk, fa2, fn2, fc2, fe, rfl, hfe, HFS, hst3⟩ := zAX hsaid; have HFS := zA HFS; clear hsaid; have hb3 := zW hw0 hst3; have z3 := hb3.size; obtain ⟨t0, u0⟩ := blk1 (HB.out _ hb3).1; (try simp only [Option.isSome_none, Option.isSome_some] at hfe))
      | (go_at_call 119; refine (HS.out _ (hb3.alloc hb3.size _)).mono ?_; rintro e w5 ⟨rfl, hst5⟩; have hb5 := zW (hb3.alloc hb3.size _) hst5; have m5 := zX hst5 (qF w3 _ rfl); have r5 := on1 m5; have z5 := hst5.size; obtain ⟨t2, u2⟩ := blk1 (HB.out _ hb5).1; obtain ⟨t3, u3⟩ := blk1 (HB.out _ hb5).2.1; obtain ⟨t4, u4⟩ := blk1 (HB.out _ hb5).2.2; have zz5 := hb5.size; have n5 : ¬ b = w5.heap.size := qE; have n6 : ¬ w5.heap.size = b := qE; have n7 : ¬ w.heap.size = b := (fun e => n1 e.symm); have n8 : ¬ w.heap.size + 1 = b := (fun e => n2 e.symm); have n9 : b < w5.heap.size := qE; have g4 := fun k => (blk (zX hb5 HCS.out)).2 k; have y1 : ¬ w5.heap.size = w.heap.size + 1 := qE; have y2 : ¬ w.heap.size + 1 = w5.heap.size := qE; obtain ⟨_, d0, d1, d2, d3, _, _⟩ := HAt.out.below hb5; have e0 := jR d0; have e1 := jR d1; have e2 := jR d2; have e3 := jR d3; have g3 := fun X k => (blk1 (zX hb5 HCS.out)).2 X k))
     go_region;go_wp2_with fail;have hfin := H1.out.trans (hb5.mono hs1);refine zM (xA rfl _ _ (w.heap.size + 1) (.int .i64 i) (.int .i64 p) rfl zEh) rfl ?_;exact DocPB.err HR2.out zBK HN.out
    ·have HR2 := zA (HR1.out.trans (if_pos rfl))
     clear HR1;go_enter Tryz.func117, Tryz.ntmps117
     go_wp2_with (first
      | (go_at_call 118; refine (HFr.out _ hw0).mono ?_; rintro e w3 hsaid; obtain ⟨fq, fa1, fn1, fc1, fk, fa2, fn2, fc2, fe, rfl, hfe, HFS, hst3⟩ := zAX hsaid; have HFS := zA HFS; clear hsaid; have hb3 := zW hw0 hst3; have z3 := hb3.size; obtain ⟨t0, u0⟩ := blk1 (HB.out _ hb3).1; (try simp only [Option.isSome_none, Option.isSome_some] at hfe))
      | (go_at_call 119; refine (HS.out _ (hb3.alloc hb3.size _)).mono ?_; rintro e w5 ⟨rfl, hst5⟩; have hb5 := zW (hb3.alloc hb3.size _) hst5; have m5 := zX hst5 (qF w3 _ rfl); have r5 := on1 m5; have z5 := hst5.size; obtain ⟨t2, u2⟩ := blk1 (HB.out _ hb5).1; obtain ⟨t3, u3⟩ := blk1 (HB.out _ hb5).2.1; obtain ⟨t4, u4⟩ := blk1 (HB.out _ hb5).2.2; have zz5 := hb5.size; have n5 : ¬ b = w5.heap.size := qE; have n6 : ¬ w5.heap.size = b := qE; have n7 : ¬ w.heap.size = b := (fun e => n1 e.symm); have n8 : ¬ w.heap.size + 1 = b := (fun e => n2 e.symm); have n9 : b < w5.heap.size := qE; have g4 := fun k => (blk (zX hb5 HCS.out)).2 k; have y1 : ¬ w5.heap.size = w.heap.size + 1 := qE; have y2 : ¬ w.heap.size + 1 = w5.heap.size := qE; obtain ⟨_, d0, d1, d2, d3, _, _⟩ := HAt.out.below hb5; have e0 := jR d0; have e1 := jR d1; have e2 := jR d2; have e3 := jR d3; have g3 := fun X k => (blk1 (zX hb5 HCS.out)).2 X k)
      | (go_at_call 120; refine (HD.out _ (hb5.alloc hb5.size _)).mono ?_; intro e w6 hsaid; obtain ⟨v6, rfl, hv6, hst6⟩ := hsaid; have hb6 := zW (hb5.alloc hb5.size _) hst6; have HV6 := zA hv6; clear hv6; obtain ⟨q0, s0⟩ := blk (HB.out _ hb6).1; obtain ⟨q1, s1⟩ := blk (HB.out _ hb6).2.1; have m6 := zX hst6 (qF w5 _ rfl); obtain ⟨q2, s2⟩ := blk m6))
     go_region;go_wp2_with fail;have hfin := H1.out.trans (hb6.mono hs1);refine zM (xA rfl _ _ (w.heap.size + 1) (.int .i64 q.line) (.int .i64 q.col) rfl (by rw [xG]; simp [qR, jB, (HB.out _ hb6).2.1])) rfl ?_;rw [HR2.out, HX.out];have hv6 := HV6.out;have hn4 : n ≤ w.heap.size := HN.out;refine ⟨_, rfl, (qG (zZ _) hv6 jP (fun b h _ => jM)), ?_⟩;refine Below.mono ?_ HN.out
     ((with_reducible repeat' first | exact zE _ _ | assumption | refine zG ?_ ?_ _ | refine zH ?_ | refine qQ ?_ | refine zF ?_ ?_ _) <;> go_size)
 ·rw [if_neg hc] at HR
  rw [decide_eq_false hc] at hq;clear h hB k0 k1 kt hst hn he hs hf hM hA hl hla hro hcs hAc hfr hR hqt hm hc hO hAA HD;go_enter Tryz.func117, Tryz.ntmps117
  go_wp2_with (first
   | (go_at_call 118; refine (HFr.out _ hw0).mono ?_; rintro e w3 hsaid; obtain ⟨fq, fa1, fn1, fc1, fk, fa2, fn2, fc2, fe, rfl, hfe, HFS, hst3⟩ := zAX hsaid; have HFS := zA HFS; clear hsaid; have hb3 := zW hw0 hst3; have z3 := hb3.size; obtain ⟨t0, u0⟩ := blk1 (HB.out _ hb3).1; (try simp only [Option.isSome_none, Option.isSome_some] at hfe))
   | (go_at_call 119; refine (HS.out _ (hb3.alloc hb3.size _)).mono ?_; rintro e w5 ⟨rfl, hst5⟩; have hb5 := zW (hb3.alloc hb3.size _) hst5; have m5 := zX hst5 (qF w3 _ rfl); have r5 := on1 m5; have z5 := hst5.size; obtain ⟨t2, u2⟩ := blk1 (HB.out _ hb5).1; obtain ⟨t3, u3⟩ := blk1 (HB.out _ hb5).2.1; obtain ⟨t4, u4⟩ := blk1 (HB.out _ hb5).2.2; have zz5 := hb5.size; have n5 : ¬ b = w5.heap.size := qE; have n6 : ¬ w5.heap.size = b := qE; have n7 : ¬ w.heap.size = b := (fun e => n1 e.symm); have n8 : ¬ w.heap.size + 1 = b := (fun e => n2 e.symm); have n9 : b < w5.heap.size := qE; have g4 := fun k => (blk (zX hb5 HCS.out)).2 k; have y1 : ¬ w5.heap.size = w.heap.size + 1 := qE; have y2 : ¬ w.heap.size + 1 = w5.heap.size := qE; obtain ⟨_, d0, d1, d2, d3, _, _⟩ := HAt.out.below hb5; have e0 := jR d0; have e1 := jR d1; have e2 := jR d2; have e3 := jR d3; have g3 := fun X k => (blk1 (zX hb5 HCS.out)).2 X k))
  go_region;go_wp2_with fail;have hfin := H1.out.trans (hb5.mono hs1);refine zM (xA rfl _ _ (w.heap.size + 1) (.int .i64 i) (.int .i64 p) rfl zEh) rfl ?_;exact DocPB.same HR.out HO.out zBK HN.out
set_option maxRecDepth 100000 in
theorem zIR (v : Value) (s : St) (w : World) (S : Nat → Prop) (h : jC w S v s.lines) (he : EnvT w) (hs : Small s.lines) (hf : Fits s.lines) :
  Calls zV 71 #[stV v s] w (StSaid (keyS s (zAy s)) w) := by
 obtain ⟨W1, hW1, hB, hz, k0, k1⟩ := yF w v s;have HB : Hid (∀ W, Below W1.heap.size W1 W → W.heap[w.heap.size]? = some (.cells #[v, .int .i64 s.anc.line, .int .i64 s.anc.col, .int .i64 s.foc.line, .int .i64 s.foc.col, .int .i64 s.on, .int .i64 s.off] 26) ∧ W.heap[w.heap.size + 1]? = some (.cells #[.slice none 0 0, .int .i64 0, .int .i64 0, .int .i64 0, .int .i64 0, .int .i64 0, .int .i64 0] 26)) := zA fun W hW => ⟨zX hW k0, zX hW k1⟩;have hs1 := hB.size;have H1 := zA hB;obtain ⟨va, vc, rfl⟩ := h.slice
 have HC := zA (zCe _ s 117 #[.pointer (some ⟨w.heap.size, 0, none⟩)] (zAy s) W1 S (h.below (zZ _) hB) (he.below hB) hs hf (enters_of Tryz.func117 qC rfl)
  (fun hm n W a c hW h1 h2 h3 => zLt w.heap.size _ s n a c W (zX hW k0) h3 h2 ((he.below hB).below hW) hm ⟨_, _, _, rfl⟩ qE))
 obtain ⟨X, hX⟩ : ∃ X, keyS s (zAy s) = X := ⟨_, rfl⟩;rw [hX] at HC ⊢;obtain ⟨p0, f0⟩ := blk k0;obtain ⟨p1, f1⟩ := blk k1;clear h he hs hf hX k0 k1 hB;go_enter Tryz.func71, Tryz.ntmps71;go_wp2_with (go_at_call 107; refine HC.out.mono ?_; intro e w2 hsaid; obtain ⟨v2, rfl, hv2, hb2⟩ := hsaid; obtain ⟨a2, c2, rfl⟩ := hv2.slice; have HV2 := zA hv2; clear hv2; obtain ⟨q2, g2⟩ := blk (HB.out _ hb2).2);refine zM (jU rfl _ _ (w.heap.size + 1) (.slice a2 X.1.lines.length c2) (.int .i64 X.1.anc.line) (.int .i64 X.1.anc.col) (.int .i64 X.1.foc.line) (.int .i64 X.1.foc.col) (.int .i64 X.1.on) (.int .i64 X.1.off) (.int .i64 X.2) rfl rfl vV) rfl ?_;have hfin := H1.out.trans (hb2.mono hs1);have hv2 := HV2.out;exact ⟨_, rfl, (qG (zZ _) hv2 jP (fun b h _ => jM)), by ((with_reducible repeat' first | exact zE _ _ | assumption | refine zG ?_ ?_ _ | refine zH ?_ | refine qQ ?_ | refine zF ?_ ?_ _) <;> go_size)⟩
theorem zMJ (w : World) (B : Nat) {x0 x1 x2 x3 x4 x5 x6 : Value} {t : TypeId} (h : w.heap[B]? = some (.cells #[x0, x1, x2, x3, x4, x5, x6] t)) (a b c d e f g : Value) :
  ∃ W, ((((((w.setCell ⟨B, 0, none⟩ a).setCell ⟨B, 1, none⟩ b).setCell ⟨B, 2, none⟩ c).setCell ⟨B, 3, none⟩ d).setCell ⟨B, 4, none⟩ e).setCell ⟨B, 5, none⟩ f).setCell ⟨B, 6, none⟩ g = W ∧
   W.heap[B]? = some (.cells #[a, b, c, d, e, f, g] t) ∧ (∀ n, n ≤ B → Below n w W) ∧ (∀ k, k ≠ B → W.heap[k]? = w.heap[k]?) ∧ W.heap.size = w.heap.size :=
 ⟨_, rfl, by simp [qR, jB, h], fun n hn => (((((((zE _ _).setCell hn _).setCell hn _).setCell hn _).setCell hn _).setCell hn _).setCell hn _).setCell hn _, fun k hk => by simp [qR, Ne.symm hk], by simp⟩
theorem zBA {α : Type} {t : TypeId} {k : Nat} {enc : α → List Value} (hk : ∀ x, (enc x).length = k) {w : World} {S : Nat → Prop} {b : Nat} (xs : List α) (h : w.heap[b]? = some (.cells (xs.map enc).flatten.toArray t)) (hS : S b) (hm : xs.length ≤ maxLen) {u : TypeId} :
  SliceR u k (rdOf enc) false w S (.slice (some ⟨b, 0, none⟩) xs.length xs.length) xs := by
 refine ⟨_, xs.length, rfl, zC _, hm, .inr ⟨b, 0, rfl, hS, (zL.1 h).1, fun h => xE, fun i x hx => ⟨enc x, hk x, rfl, fun j u hu => ?_⟩⟩⟩;rw [jS h, Nat.zero_add, List.getElem?_toArray];exact zCj (xs.map enc) i (enc x) j u (by simp; intro a _; exact hk a) (by rw [List.getElem?_map, hx]; rfl) hu
set_option maxRecDepth 100000 in
theorem zHG (v : Value) (s : St) (t : Int) (w : World) (S : Nat → Prop) (h : jC w S v s.lines) (he : EnvT w) (hs : Small s.lines) (hf : Fits s.lines) :
  Calls zV 123 #[stV v s, .int .i64 t] w (StSaid (uH s t) w) := by
 obtain ⟨W1, hW1, hB, hz, k0, k1, k2⟩ := zDH w v s (.int .i64 t) 3;have HB : Hid (∀ W, Below W1.heap.size W1 W → W.heap[w.heap.size]? = some (.cells #[v, .int .i64 s.anc.line, .int .i64 s.anc.col, .int .i64 s.foc.line, .int .i64 s.foc.col, .int .i64 s.on, .int .i64 s.off] 26) ∧ W.heap[w.heap.size + 1]? = some (.cells #[.int .i64 t] 3) ∧ W.heap[w.heap.size + 2]? = some (.cells #[.slice none 0 0, .int .i64 0, .int .i64 0, .int .i64 0, .int .i64 0, .int .i64 0, .int .i64 0] 26)) := zA fun W hW => ⟨zX hW k0, zX hW k1, zX hW k2⟩;have hs1 := hB.size;have H1 := zA hB;have hw0 : Below W1.heap.size W1 W1 := zE _ _;have HV : Hid (∀ W, Below W1.heap.size W1 W → jC W S v s.lines) := zA fun W hW => h.below (zZ _) (hB.trans (hW.mono hs1));have HE : Hid (∀ W, Below W1.heap.size W1 W → EnvT W) := zA fun W hW => (he.below hB).below hW;have HM : Hid (∀ W, Below W1.heap.size W1 W → Calls zV 27 #[stV v s] W fun e w' => e = .returned (.bool (mayS s)) ∧ Below W.heap.size W w') := zA fun W hW => uM v s W S (HV.out W hW) (HE.out W hW) hs;have HO : Hid (∀ W, Below W1.heap.size W1 W → Calls zV 50 #[stV v s] W fun e w' => e = .returned (.bool (!decide (s.anc = s.foc))) ∧ Below W.heap.size W w') := zA fun W hW => zCb v s W;have HBi : Hid (∀ W, Below W1.heap.size W1 W → Calls zV 43 #[stV v s] W fun e w' => e = .returned (.int .i64 (xX s)) ∧ Below W.heap.size W w') := zA fun W hW => zEW v s W S (HV.out W hW) (HE.out W hW) hs hf;have HOw : Hid (∀ W, Below W1.heap.size W1 W → Calls zV 182 #[stV v s] W fun e w' => ∃ v', e = .returned (stV v' s) ∧ DocR true w' (fun b => W.heap.size ≤ b) v' s.lines ∧ Below W.heap.size W w') := zA fun W hW => zFV v s W S (HV.out W hW) hf
 have HCh : Hid (mayS s = true → ∀ W, Below W1.heap.size W1 W → Calls zV 124 #[stV v s, .func (.func 183) #[] #[.pointer (some ⟨w.heap.size + 1, 0, none⟩)]] W (StSaid (zAG s (togD s t)) W)) := zA fun hm W hW => by
  have := zBR v s 183 #[.pointer (some ⟨w.heap.size + 1, 0, none⟩)] (togD s t) W S (HV.out W hW) (HE.out W hW) hs (enters_of Tryz.func183 qC rfl)
   (fun _ X hX => zHm (w.heap.size + 1) v s.lines (qV s).1 (qV s).2 t X S (HV.out X (zW hW hX)) (HE.out X (zW hW hX)) hs hf (HB.out X (zW hW hX)).2.1)
  unfold yY at this;rw [if_pos hm] at this;exact this
 have HT : Hid (∀ W : World, Calls zV 180 #[] W fun e w' => e = .returned (.agg #[.int .i64 1, .int .i64 2, .int .i64 4, .int .i64 8]) ∧ Below W.heap.size W w') := zA fun W => by
  go_enter Tryz.func180, Tryz.ntmps180;go_wp2_with fail;refine zM (results_cell_row rfl _ _ W.heap.size _ _ _ _ rfl (qF _ _ rfl) Tryz.underlying189 rfl qC) rfl ?_;exact ⟨rfl, by ((with_reducible repeat' first | exact zE _ _ | assumption | refine zG ?_ ?_ _ | refine zH ?_ | refine qQ ?_ | refine zF ?_ ?_ _) <;> go_size)⟩
 have HR : Hid (uH s t = if mayS s = true ∧ four t = true then (if s.anc = s.foc then (togC s t, 0) else zAG s (togD s t)) else (noS, 1)) := zA rfl;have HTC : Hid (togC s t = ⟨s.lines, s.anc, s.foc, bits .or .i64 (bits .andNot .i64 s.on t) (bits .andNot .i64 t (xX s)), bits .or .i64 (bits .andNot .i64 s.off t) (bits .andNot .i64 t (bits .andNot .i64 t (xX s)))⟩) := zA rfl;obtain ⟨va, vc, rfl⟩ := h.slice;clear h he hs hf hB;obtain ⟨w2, hw2⟩ : ∃ w2, W1 = w2 := ⟨_, rfl⟩;cases hm : mayS s
 ·rw [hm] at HM HR
  have HR2 : Hid (uH s t = (noS, 1)) := zA (HR.out.trans (if_neg qT));obtain ⟨p0, f0⟩ := blk k0;clear HR HCh hm k0 k1 k2 hw2;go_enter Tryz.func123, Tryz.ntmps123;go_wp2_with (go_at_call 180; refine (HT.out _).mono ?_; rintro e w2 ⟨rfl, hst2⟩);have hb2 := zW hw0 hst2;obtain ⟨w3, hw3⟩ : ∃ w3, w2.alloc (.cells #[.int .i64 1, .int .i64 2, .int .i64 4, .int .i64 8] 189) = w3 := ⟨_, rfl⟩;rw [hw3];have hb23 : Below w2.heap.size w2 w3 := hw3 ▸ xK (zE _ _) _;have n3 : w3.heap[w2.heap.size]? = some (.cells #[.int .i64 1, .int .i64 2, .int .i64 4, .int .i64 8] 189) := hw3 ▸ qF _ _ rfl;have hb3 := zW hb2 hb23
  have HCt : Hid (∀ W, Below w3.heap.size w3 W → Calls zV 181 #[.slice (some ⟨w2.heap.size, 0, none⟩) 4 4, .int .i64 t] W fun e w' => e = .returned (.bool (four t)) ∧ Below W.heap.size W w') := zA fun W hW => by
   have := zBP _ [1, 2, 4, 8] t W (fun _ => True) (zBA (enc := yH) (fun _ => rfl) [1, 2, 4, 8] (zX hW n3) trivial jA);rw [zCv] at this;exact this.mono fun _ _ ⟨h1, h2⟩ => ⟨h1, h2 ▸ zE _ _⟩
  clear hw3 n3 p0 f0;refine kZ w3.heap.size qC qC ?_;refine zI qC (fun K hK => ?_);refine qK ?_ (fun W hW => ?_) (hK _ ?_);rotate_left 1
  ·skip
   obtain ⟨p0, f0⟩ := blk (HB.out _ (zW hb3 hW)).1;obtain ⟨p1, f1⟩ := blk (HB.out _ (zW hb3 hW)).2.1;go_simp
   try rfl
  clear hK;clear K;try simp only [zU, qI, qX, qY]
  refine zI qC (fun K hK => ?_);refine qL (f := ?_) (args := ?_) ?_ (fun W hW => ?_) (fun W hW => ?_) (hK _ ?_);rotate_left 3
  ·go_simp
   constructor <;> rfl
  ·refine (HM.out _ (zW hb3 hW)).mono ?_
   rintro e W2 ⟨rfl, hbW⟩;refine ⟨?_, zW hW hbW⟩
   rfl
  clear hK;clear K;try simp only [zU, qI, qX, qY]
  refine zI qC (fun K hK => ?_);refine qK ?_ (fun W hW => ?_) (hK _ ?_);rotate_left 1
  ·skip
   go_simp
   try rfl
  clear hK;clear K;try simp only [zU, qI, qX, qY]
  refine zI qC (fun K hK => ?_);refine qK ?_ (fun W hW => ?_) (hK _ ?_);rotate_left 1
  ·skip
   go_simp
   try rfl
  clear hK;clear K;try simp only [zU, qI, qX, qY]
  refine zJ qC ?_;try simp only [zU, qI, qX, qY]
  refine zJ qC ?_;try simp only [zU, qI, qX, qY]
  refine zJ qC ?_;try simp only [zU, qI, qX, qY]
  refine zJ qC ?_;try simp only [zU, qI, qX, qY]
  refine zI qC (fun K hK => ?_);refine qK ?_ (fun W hW => ?_) (hK _ ?_);rotate_left 1
  ·skip
   go_simp
   try rfl
  clear hK;clear K;try simp only [zU, qI, qX, qY]
  refine zI qC (fun K hK => ?_);refine qK ?_ (fun W hW => ?_) (hK _ ?_);rotate_left 1
  ·skip
   go_simp
   try rfl
  clear hK;clear K;try simp only [zU, qI, qX, qY]
  refine wpQuiet_nil (fun X6 hstX6 => ?_);have hcX6 := zW hb3 hstX6;obtain ⟨p2, f2⟩ := blk (HB.out _ hcX6).2.2;go_wp2_with fail;refine zM (jU rfl _ _ (w.heap.size + 2) (.slice none 0 0) (.int .i64 0) (.int .i64 0) (.int .i64 0) (.int .i64 0) (.int .i64 0) (.int .i64 0) (.int .i64 1) rfl rfl (by simp [qR, jB, (HB.out _ hcX6).2.2])) rfl ?_;unfold StSaid;rw [HR2.out];have hfin := H1.out.trans (hcX6.mono hs1);exact ⟨_, rfl, SliceR.nil _ _ _ _ _ _, by ((with_reducible repeat' first | exact zE _ _ | assumption | refine zG ?_ ?_ _ | refine zH ?_ | refine qQ ?_ | refine zF ?_ ?_ _) <;> go_size)⟩
 ·have HCh2 := zA (HCh.out hm)
  rw [hm] at HM HR;clear HCh hm hw2;cases hfo : four t
  ·rw [hfo] at HR
   have HF := zA hfo;have HR2 : Hid (uH s t = (noS, 1)) := zA (HR.out.trans (if_neg qT));obtain ⟨p0, f0⟩ := blk k0;clear HR HCh2 hfo k0 k1 k2;go_enter Tryz.func123, Tryz.ntmps123;go_wp2_with (go_at_call 180; refine (HT.out _).mono ?_; rintro e w2 ⟨rfl, hst2⟩);have hb2 := zW hw0 hst2;obtain ⟨w3, hw3⟩ : ∃ w3, w2.alloc (.cells #[.int .i64 1, .int .i64 2, .int .i64 4, .int .i64 8] 189) = w3 := ⟨_, rfl⟩;rw [hw3];have hb23 : Below w2.heap.size w2 w3 := hw3 ▸ xK (zE _ _) _;have n3 : w3.heap[w2.heap.size]? = some (.cells #[.int .i64 1, .int .i64 2, .int .i64 4, .int .i64 8] 189) := hw3 ▸ qF _ _ rfl;have hb3 := zW hb2 hb23
   have HCt : Hid (∀ W, Below w3.heap.size w3 W → Calls zV 181 #[.slice (some ⟨w2.heap.size, 0, none⟩) 4 4, .int .i64 t] W fun e w' => e = .returned (.bool (four t)) ∧ Below W.heap.size W w') := zA fun W hW => by
    have := zBP _ [1, 2, 4, 8] t W (fun _ => True) (zBA (enc := yH) (fun _ => rfl) [1, 2, 4, 8] (zX hW n3) trivial jA);rw [zCv] at this;exact this.mono fun _ _ ⟨h1, h2⟩ => ⟨h1, h2 ▸ zE _ _⟩
   clear hw3 n3 p0 f0;rw [HF.out] at HCt;refine kZ w3.heap.size qC qC ?_;refine zI qC (fun K hK => ?_);refine qK ?_ (fun W hW => ?_) (hK _ ?_);rotate_left 1
   ·skip
    obtain ⟨p0, f0⟩ := blk (HB.out _ (zW hb3 hW)).1;obtain ⟨p1, f1⟩ := blk (HB.out _ (zW hb3 hW)).2.1;go_simp
    try rfl
   clear hK;clear K;try simp only [zU, qI, qX, qY]
   refine zI qC (fun K hK => ?_);refine qL (f := ?_) (args := ?_) ?_ (fun W hW => ?_) (fun W hW => ?_) (hK _ ?_);rotate_left 3
   ·go_simp
    constructor <;> rfl
   ·refine (HM.out _ (zW hb3 hW)).mono ?_
    rintro e W2 ⟨rfl, hbW⟩;refine ⟨?_, zW hW hbW⟩
    rfl
   clear hK;clear K;try simp only [zU, qI, qX, qY]
   refine zI qC (fun K hK => ?_);refine qK ?_ (fun W hW => ?_) (hK _ ?_);rotate_left 1
   ·skip
    go_simp
    try rfl
   clear hK;clear K;try simp only [zU, qI, qX, qY]
   refine zI qC (fun K hK => ?_);refine qK ?_ (fun W hW => ?_) (hK _ ?_);rotate_left 1
   ·skip
    go_simp
    try rfl
   clear hK;clear K;try simp only [zU, qI, qX, qY]
   refine zI qC (fun K hK => ?_);refine qK ?_ (fun W hW => ?_) (hK _ ?_);rotate_left 1
   ·skip
    go_simp
    try rfl
   clear hK;clear K;try simp only [zU, qI, qX, qY]
   refine zI qC (fun K hK => ?_);refine qK ?_ (fun W hW => ?_) (hK _ ?_);rotate_left 1
   ·skip
    obtain ⟨p0, f0⟩ := blk (HB.out _ (zW hb3 hW)).1;obtain ⟨p1, f1⟩ := blk (HB.out _ (zW hb3 hW)).2.1;go_simp
    try rfl
   clear hK;clear K;try simp only [zU, qI, qX, qY]
   refine zI qC (fun K hK => ?_);refine qL (f := ?_) (args := ?_) ?_ (fun W hW => ?_) (fun W hW => ?_) (hK _ ?_);rotate_left 3
   ·go_simp
    constructor <;> rfl
   ·refine (HCt.out _ hW).mono ?_
    rintro e W2 ⟨rfl, hbW⟩;refine ⟨?_, zW hW hbW⟩
    rfl
   clear hK;clear K;try simp only [zU, qI, qX, qY]
   refine zI qC (fun K hK => ?_);refine qK ?_ (fun W hW => ?_) (hK _ ?_);rotate_left 1
   ·skip
    go_simp
    try rfl
   clear hK;clear K;try simp only [zU, qI, qX, qY]
   refine zI qC (fun K hK => ?_);refine qK ?_ (fun W hW => ?_) (hK _ ?_);rotate_left 1
   ·skip
    go_simp
    try rfl
   clear hK;clear K;try simp only [zU, qI, qX, qY]
   refine zI qC (fun K hK => ?_);refine qK ?_ (fun W hW => ?_) (hK _ ?_);rotate_left 1
   ·skip
    go_simp
    try rfl
   clear hK;clear K;try simp only [zU, qI, qX, qY]
   refine wpQuiet_nil (fun X6 hstX6 => ?_);have hcX6 := zW hb3 hstX6;obtain ⟨p2, f2⟩ := blk (HB.out _ hcX6).2.2;go_wp2_with fail;refine zM (jU rfl _ _ (w.heap.size + 2) (.slice none 0 0) (.int .i64 0) (.int .i64 0) (.int .i64 0) (.int .i64 0) (.int .i64 0) (.int .i64 0) (.int .i64 1) rfl rfl (by simp [qR, jB, (HB.out _ hcX6).2.2])) rfl ?_;unfold StSaid;rw [HR2.out];have hfin := H1.out.trans (hcX6.mono hs1);exact ⟨_, rfl, SliceR.nil _ _ _ _ _ _, by ((with_reducible repeat' first | exact zE _ _ | assumption | refine zG ?_ ?_ _ | refine zH ?_ | refine qQ ?_ | refine zF ?_ ?_ _) <;> go_size)⟩
  ·rw [hfo] at HR
   have HF := zA hfo;rw [if_pos ⟨rfl, rfl⟩] at HR
   by_cases hc : s.anc = s.foc
   ·have HR2 : Hid (uH s t = (togC s t, 0)) := zA (HR.out.trans (if_pos hc))
    rw [decide_eq_true hc] at HO;obtain ⟨p0, f0⟩ := blk k0;obtain ⟨r, hr⟩ : ∃ r, xX s = r := ⟨_, rfl⟩;rw [hr] at HBi HTC;clear HR HCh2 hfo hc hr k0 k1 k2;go_enter Tryz.func123, Tryz.ntmps123;go_wp2_with (go_at_call 180; refine (HT.out _).mono ?_; rintro e w2 ⟨rfl, hst2⟩);have hb2 := zW hw0 hst2;obtain ⟨w3, hw3⟩ : ∃ w3, w2.alloc (.cells #[.int .i64 1, .int .i64 2, .int .i64 4, .int .i64 8] 189) = w3 := ⟨_, rfl⟩;rw [hw3];have hb23 : Below w2.heap.size w2 w3 := hw3 ▸ xK (zE _ _) _;have n3 : w3.heap[w2.heap.size]? = some (.cells #[.int .i64 1, .int .i64 2, .int .i64 4, .int .i64 8] 189) := hw3 ▸ qF _ _ rfl;have hb3 := zW hb2 hb23
    have HCt : Hid (∀ W, Below w3.heap.size w3 W → Calls zV 181 #[.slice (some ⟨w2.heap.size, 0, none⟩) 4 4, .int .i64 t] W fun e w' => e = .returned (.bool (four t)) ∧ Below W.heap.size W w') := zA fun W hW => by
     have := zBP _ [1, 2, 4, 8] t W (fun _ => True) (zBA (enc := yH) (fun _ => rfl) [1, 2, 4, 8] (zX hW n3) trivial jA);rw [zCv] at this;exact this.mono fun _ _ ⟨h1, h2⟩ => ⟨h1, h2 ▸ zE _ _⟩
    clear hw3 n3 p0 f0;rw [HF.out] at HCt;refine kZ w3.heap.size qC qC ?_;refine zI qC (fun K hK => ?_);refine qK ?_ (fun W hW => ?_) (hK _ ?_);rotate_left 1
    ·skip
     obtain ⟨p0, f0⟩ := blk (HB.out _ (zW hb3 hW)).1;obtain ⟨p1, f1⟩ := blk (HB.out _ (zW hb3 hW)).2.1;go_simp
     try rfl
    clear hK;clear K;try simp only [zU, qI, qX, qY]
    refine zI qC (fun K hK => ?_);refine qL (f := ?_) (args := ?_) ?_ (fun W hW => ?_) (fun W hW => ?_) (hK _ ?_);rotate_left 3
    ·go_simp
     constructor <;> rfl
    ·refine (HM.out _ (zW hb3 hW)).mono ?_
     rintro e W2 ⟨rfl, hbW⟩;refine ⟨?_, zW hW hbW⟩
     rfl
    clear hK;clear K;try simp only [zU, qI, qX, qY]
    refine zI qC (fun K hK => ?_);refine qK ?_ (fun W hW => ?_) (hK _ ?_);rotate_left 1
    ·skip
     go_simp
     try rfl
    clear hK;clear K;try simp only [zU, qI, qX, qY]
    refine zI qC (fun K hK => ?_);refine qK ?_ (fun W hW => ?_) (hK _ ?_);rotate_left 1
    ·skip
     go_simp
     try rfl
    clear hK;clear K;try simp only [zU, qI, qX, qY]
    refine zI qC (fun K hK => ?_);refine qK ?_ (fun W hW => ?_) (hK _ ?_);rotate_left 1
    ·skip
     go_simp
     try rfl
    clear hK;clear K;try simp only [zU, qI, qX, qY]
    refine zI qC (fun K hK => ?_);refine qK ?_ (fun W hW => ?_) (hK _ ?_);rotate_left 1
    ·skip
     obtain ⟨p0, f0⟩ := blk (HB.out _ (zW hb3 hW)).1;obtain ⟨p1, f1⟩ := blk (HB.out _ (zW hb3 hW)).2.1;go_simp
     try rfl
    clear hK;clear K;try simp only [zU, qI, qX, qY]
    refine zI qC (fun K hK => ?_);refine qL (f := ?_) (args := ?_) ?_ (fun W hW => ?_) (fun W hW => ?_) (hK _ ?_);rotate_left 3
    ·go_simp
     constructor <;> rfl
    ·refine (HCt.out _ hW).mono ?_
     rintro e W2 ⟨rfl, hbW⟩;refine ⟨?_, zW hW hbW⟩
     rfl
    clear hK;clear K;try simp only [zU, qI, qX, qY]
    refine zI qC (fun K hK => ?_);refine qK ?_ (fun W hW => ?_) (hK _ ?_);rotate_left 1
    ·skip
     go_simp
     try rfl
    clear hK;clear K;try simp only [zU, qI, qX, qY]
    refine zI qC (fun K hK => ?_);refine qK ?_ (fun W hW => ?_) (hK _ ?_);rotate_left 1
    ·skip
     go_simp
     try rfl
    clear hK;clear K;try simp only [zU, qI, qX, qY]
    refine zI qC (fun K hK => ?_);refine qK ?_ (fun W hW => ?_) (hK _ ?_);rotate_left 1
    ·skip
     go_simp
     try rfl
    clear hK;clear K;try simp only [zU, qI, qX, qY]
    refine wpQuiet_nil (fun X6 hstX6 => ?_);have hcX6 := zW hb3 hstX6;obtain ⟨p0, f0⟩ := blk (HB.out _ hcX6).1;go_wp2_with (go_at_call 50; refine (HO.out _ hcX6).mono ?_; rintro e w7 ⟨rfl, hst7⟩; have hb7 := zW hcX6 hst7; skip);clear p0 f0;refine kZ w7.heap.size qC qC ?_;refine zI qC (fun K hK => ?_);refine qK ?_ (fun W hW => ?_) (hK _ ?_);rotate_left 1
    ·skip
     obtain ⟨p0, f0⟩ := blk (HB.out _ (zW hb7 hW)).1;obtain ⟨p1, f1⟩ := blk (HB.out _ (zW hb7 hW)).2.1;go_simp
     try rfl
    clear hK;clear K;try simp only [zU, qI, qX, qY]
    refine zI qC (fun K hK => ?_);refine qK ?_ (fun W hW => ?_) (hK _ ?_);rotate_left 1
    ·skip
     obtain ⟨p0, f0⟩ := blk (HB.out _ (zW hb7 hW)).1;obtain ⟨p1, f1⟩ := blk (HB.out _ (zW hb7 hW)).2.1;go_simp
     try rfl
    clear hK;clear K;try simp only [zU, qI, qX, qY]
    refine zI qC (fun K hK => ?_);refine qL (f := ?_) (args := ?_) ?_ (fun W hW => ?_) (fun W hW => ?_) (hK _ ?_);rotate_left 3
    ·go_simp
     constructor <;> rfl
    ·refine (HBi.out _ (zW hb7 hW)).mono ?_
     rintro e W2 ⟨rfl, hbW⟩;refine ⟨?_, zW hW hbW⟩
     rfl
    clear hK;clear K;try simp only [zU, qI, qX, qY]
    refine zI qC (fun K hK => ?_);refine qK ?_ (fun W hW => ?_) (hK _ ?_);rotate_left 1
    ·skip
     go_simp
     try rfl
    clear hK;clear K;try simp only [zU, qI, qX, qY]
    refine zI qC (fun K hK => ?_);refine qK ?_ (fun W hW => ?_) (hK _ ?_);rotate_left 1
    ·skip
     go_simp
     try rfl
    clear hK;clear K;try simp only [zU, qI, qX, qY]
    refine wpQuiet_nil (fun X8 hstX8 => ?_);have hcX8 := zW hb7 hstX8;obtain ⟨p0, f0⟩ := blk (HB.out _ hcX8).1;go_wp2_with (go_at_call 182; refine (HOw.out _ hcX8).mono ?_; rintro e w9 ⟨v9, rfl, hv9, hst9⟩; obtain ⟨a9, c9, rfl⟩ := hv9.slice; have hb9 := zW hcX8 hst9; have HV9 := zA hv9; clear hv9; obtain ⟨q0, g0⟩ := blk (HB.out _ hb9).1);obtain ⟨w10, hw10, n10, b10, o10, z10⟩ := zMJ w9 w.heap.size (HB.out _ hb9).1 (.slice a9 s.lines.length c9) (.int .i64 s.anc.line) (.int .i64 s.anc.col) (.int .i64 s.foc.line) (.int .i64 s.foc.col) (.int .i64 s.on) (.int .i64 s.off);rw [hw10];have HX10 := zA (zB n10 (zB ((o10 (w.heap.size + 1) qE).trans (HB.out _ hb9).2.1) (zB ((o10 (w.heap.size + 2) qE).trans (HB.out _ hb9).2.2) (zB b10 (zB o10 z10)))));clear hw10 q0 g0 n10 b10 o10 z10 p0 f0;obtain ⟨p0, f0⟩ := blk HX10.out.1;obtain ⟨p1, f1⟩ := blk HX10.out.2.1;obtain ⟨p2, f2⟩ := blk HX10.out.2.2.1;go_region;go_wp2_with fail;refine zM (jU rfl _ _ (w.heap.size + 2) (.slice a9 s.lines.length c9) (.int .i64 s.anc.line) (.int .i64 s.anc.col) (.int .i64 s.foc.line) (.int .i64 s.foc.col) (.int .i64 (bits .or .i64 (bits .andNot .i64 s.on t) (bits .andNot .i64 t r))) (.int .i64 (bits .or .i64 (bits .andNot .i64 s.off t) (bits .andNot .i64 t (bits .andNot .i64 t r)))) (.int .i64 0) rfl rfl (by rw [xG]; simp [qR, jB, HX10.out.2.2.1])) rfl ?_;unfold StSaid;rw [HR2.out, HTC.out];have hb10 : Below w.heap.size w w10 := (H1.out.trans (hb9.mono hs1)).trans (HX10.out.2.2.2.1 _ (zC _));have hv10 : DocR true w10 (fun b => w.heap.size + 3 ≤ b) (.slice a9 s.lines.length c9) s.lines := qG (zZ true) HV9.out ⟨Nat.le_of_eq HX10.out.2.2.2.2.2.symm, fun b hb _ => HX10.out.2.2.2.2.1 b (fun e => by have hb : X8.heap.size ≤ b := hb; have := hcX8.size; omega)⟩ (fun b hb _ => by have hb : X8.heap.size ≤ b := hb; have := hcX8.size; show w.heap.size + 3 ≤ b; omega);exact ⟨_, rfl, (qG (zZ _) hv10 zEe (fun b h _ => jM)), by ((with_reducible repeat' first | exact zE _ _ | assumption | refine zG ?_ ?_ _ | refine zH ?_ | refine qQ ?_ | refine zF ?_ ?_ _) <;> go_size)⟩
   ·have HR2 : Hid (uH s t = zAG s (togD s t)) := zA (HR.out.trans (if_neg hc))
    rw [decide_eq_false hc] at HO;obtain ⟨X, hX⟩ : ∃ X, zAG s (togD s t) = X := ⟨_, rfl⟩;rw [hX] at HCh2 HR2;obtain ⟨p0, f0⟩ := blk k0;clear HR hfo hc hX k0 k1 k2;go_enter Tryz.func123, Tryz.ntmps123;go_wp2_with (go_at_call 180; refine (HT.out _).mono ?_; rintro e w2 ⟨rfl, hst2⟩);have hb2 := zW hw0 hst2;obtain ⟨w3, hw3⟩ : ∃ w3, w2.alloc (.cells #[.int .i64 1, .int .i64 2, .int .i64 4, .int .i64 8] 189) = w3 := ⟨_, rfl⟩;rw [hw3];have hb23 : Below w2.heap.size w2 w3 := hw3 ▸ xK (zE _ _) _;have n3 : w3.heap[w2.heap.size]? = some (.cells #[.int .i64 1, .int .i64 2, .int .i64 4, .int .i64 8] 189) := hw3 ▸ qF _ _ rfl;have hb3 := zW hb2 hb23
    have HCt : Hid (∀ W, Below w3.heap.size w3 W → Calls zV 181 #[.slice (some ⟨w2.heap.size, 0, none⟩) 4 4, .int .i64 t] W fun e w' => e = .returned (.bool (four t)) ∧ Below W.heap.size W w') := zA fun W hW => by
     have := zBP _ [1, 2, 4, 8] t W (fun _ => True) (zBA (enc := yH) (fun _ => rfl) [1, 2, 4, 8] (zX hW n3) trivial jA);rw [zCv] at this;exact this.mono fun _ _ ⟨h1, h2⟩ => ⟨h1, h2 ▸ zE _ _⟩
    clear hw3 n3 p0 f0;rw [HF.out] at HCt;refine kZ w3.heap.size qC qC ?_;refine zI qC (fun K hK => ?_);refine qK ?_ (fun W hW => ?_) (hK _ ?_);rotate_left 1
    ·skip
     obtain ⟨p0, f0⟩ := blk (HB.out _ (zW hb3 hW)).1;obtain ⟨p1, f1⟩ := blk (HB.out _ (zW hb3 hW)).2.1;go_simp
     try rfl
    clear hK;clear K;try simp only [zU, qI, qX, qY]
    refine zI qC (fun K hK => ?_);refine qL (f := ?_) (args := ?_) ?_ (fun W hW => ?_) (fun W hW => ?_) (hK _ ?_);rotate_left 3
    ·go_simp
     constructor <;> rfl
    ·refine (HM.out _ (zW hb3 hW)).mono ?_
     rintro e W2 ⟨rfl, hbW⟩;refine ⟨?_, zW hW hbW⟩
     rfl
    clear hK;clear K;try simp only [zU, qI, qX, qY]
    refine zI qC (fun K hK => ?_);refine qK ?_ (fun W hW => ?_) (hK _ ?_);rotate_left 1
    ·skip
     go_simp
     try rfl
    clear hK;clear K;try simp only [zU, qI, qX, qY]
    refine zI qC (fun K hK => ?_);refine qK ?_ (fun W hW => ?_) (hK _ ?_);rotate_left 1
    ·skip
     go_simp
     try rfl
    clear hK;clear K;try simp only [zU, qI, qX, qY]
    refine zI qC (fun K hK => ?_);refine qK ?_ (fun W hW => ?_) (hK _ ?_);rotate_left 1
    ·skip
     go_simp
     try rfl
    clear hK;clear K;try simp only [zU, qI, qX, qY]
    refine zI qC (fun K hK => ?_);refine qK ?_ (fun W hW => ?_) (hK _ ?_);rotate_left 1
    ·skip
     obtain ⟨p0, f0⟩ := blk (HB.out _ (zW hb3 hW)).1;obtain ⟨p1, f1⟩ := blk (HB.out _ (zW hb3 hW)).2.1;go_simp
     try rfl
    clear hK;clear K;try simp only [zU, qI, qX, qY]
    refine zI qC (fun K hK => ?_);refine qL (f := ?_) (args := ?_) ?_ (fun W hW => ?_) (fun W hW => ?_) (hK _ ?_);rotate_left 3
    ·go_simp
     constructor <;> rfl
    ·refine (HCt.out _ hW).mono ?_
     rintro e W2 ⟨rfl, hbW⟩;refine ⟨?_, zW hW hbW⟩
     rfl
    clear hK;clear K;try simp only [zU, qI, qX, qY]
    refine zI qC (fun K hK => ?_);refine qK ?_ (fun W hW => ?_) (hK _ ?_);rotate_left 1
    ·skip
     go_simp
     try rfl
    clear hK;clear K;try simp only [zU, qI, qX, qY]
    refine zI qC (fun K hK => ?_);refine qK ?_ (fun W hW => ?_) (hK _ ?_);rotate_left 1
    ·skip
     go_simp
     try rfl
    clear hK;clear K;try simp only [zU, qI, qX, qY]
    refine zI qC (fun K hK => ?_);refine qK ?_ (fun W hW => ?_) (hK _ ?_);rotate_left 1
    ·skip
     go_simp
     try rfl
    clear hK;clear K;try simp only [zU, qI, qX, qY]
    refine wpQuiet_nil (fun X6 hstX6 => ?_);have hcX6 := zW hb3 hstX6;obtain ⟨p0, f0⟩ := blk (HB.out _ hcX6).1
    go_wp2_with (first
     | (go_at_call 50; refine (HO.out _ hcX6).mono ?_; rintro e w7 ⟨rfl, hst7⟩; have hb7 := zW hcX6 hst7; obtain ⟨q0, g0⟩ := blk (HB.out _ hb7).1)
     | (go_at_call 124; refine (HCh2.out _ hb7).mono ?_; intro e w8 hsaid; obtain ⟨v8, rfl, hv8, hst8⟩ := hsaid; obtain ⟨a8, c8, rfl⟩ := hv8.slice; have hb8 := zW hb7 hst8; have HV8 := zA hv8; clear hv8; obtain ⟨q2, g2⟩ := blk (HB.out _ hb8).2.2))
    refine zM (jU rfl _ _ (w.heap.size + 2) (.slice a8 X.1.lines.length c8) (.int .i64 X.1.anc.line) (.int .i64 X.1.anc.col) (.int .i64 X.1.foc.line) (.int .i64 X.1.foc.col) (.int .i64 X.1.on) (.int .i64 X.1.off) (.int .i64 X.2) rfl rfl (by simp [qR, jB, (HB.out _ hb8).2.2])) rfl ?_;unfold StSaid;rw [HR2.out];have hfin := H1.out.trans (hb8.mono hs1);have hv8 := HV8.out;have hz7 := hb7.size;exact ⟨_, rfl, (qG (zZ _) hv8 jP (fun b h _ => jM)), by ((with_reducible repeat' first | exact zE _ _ | assumption | refine zG ?_ ?_ _ | refine zH ?_ | refine qQ ?_ | refine zF ?_ ?_ _) <;> go_size)⟩
theorem zEy {fn : Func} {p u : Tmp} (h : fn.results = #[.cell p 22, .cell u 48]) (tmps : Array Value) (w : World) (a b : Addr) (x : Value) (y : Int) (hx : ∃ c n k, x = .slice c n k) (hp : tmps.getD p undef = .pointer (some a)) (hu : tmps.getD u undef = .pointer (some b)) (h1 : w.cell? a = some x) (h2 : w.cell? b = some (.int .i64 y)) :
  (results fn tmps).run zV w = .ok (.tuple #[x, .int .i64 y]) w := by
 obtain ⟨c, n, k, rfl⟩ := hx;simp only [results, h];simp at hp hu;simp [go_sem, hp, hu, h1, h2]
def UI (w6 : World) (pre : List Cel) (W : World) : Prop := (∀ c ∈ pre, c.href = []) ∧ Below w6.heap.size w6 W ∧ w6.heap.size ≤ W.heap.size
theorem zMC (w6 : World) : OwnFrom w6.heap.size (UI w6) := fun s X Y row ⟨h1, h2, h3⟩ hg hr => ⟨h1, ownFrom_below (zC _) (zC _) s X Y row h2 hg hr, uV _ _ s X Y row h3 hg hr⟩
def UX (R : Doc × Int) (w : World) (Z : Nat) (c : Code) (pre : List Cel) (W : World) : Prop :=
 c = .ret ∧ (∃ z ∈ pre, z.href ≠ []) ∧ ∃ v, W.heap[w.heap.size + 3]? = some (.cells #[v] 22) ∧ W.heap[w.heap.size + 4]? = some (.cells #[.int .i64 R.2] 48) ∧ DocR true W (fun b => Z ≤ b) v R.1 ∧ Below w.heap.size w W
theorem zMB {R : Doc × Int} {w : World} {Z B : Nat} (hB : w.heap.size ≤ B) (c : Code) : OwnFrom B (UX R w Z c) := fun s X Y row ⟨h0, h1, v, h2, h3, h4, h5⟩ hg hr =>
 ⟨h0, h1, v, yA B _ _ _ s X Y row h2 hg hr, yA B _ _ _ s X Y row h3 hg hr, zAt (β := Unit) B _ _ (fun _ => R.1) () X Y row h4 hg hr, ownFrom_below (zC _) hB s X Y row h5 hg hr⟩
set_option maxRecDepth 200000 in
theorem zHl (Bs : Nat) (v : Value) (s : St) (P Q : Ps) (w : World) (S : Nat → Prop) (h : jC w S v s.lines) (he : EnvT w) (hs : Small s.lines) (hf : Fits s.lines) (hm : isD s.lines s.anc = true) (hBs : w.heap[Bs]? = some (.cells #[v, .int .i64 s.anc.line, .int .i64 s.anc.col, .int .i64 s.foc.line, .int .i64 s.foc.col, .int .i64 s.on, .int .i64 s.off] 26)) :
  Calls zV 128 #[v, posV P, posV Q, .pointer (some ⟨Bs, 0, none⟩)] w (DocSaid (zAq s) w) := by
 obtain ⟨W1, hW1⟩ : ∃ W1, ((((w.alloc (.cells #[v] 22)).alloc (.cells #[.int .i64 P.line, .int .i64 P.col] 24)).alloc (.cells #[.int .i64 Q.line, .int .i64 Q.col] 24)).alloc (.cells #[.slice none 0 0] 22)).alloc (.cells #[.int .i64 0] 48) = W1 := ⟨_, rfl⟩;have hB : Below w.heap.size w W1 := hW1 ▸ vI (zBH (zE _ _) _ _ _) _ _;have hz : w.heap.size + 5 = W1.heap.size := by rw [← hW1]; simp
 have k0 : W1.heap[w.heap.size]? = some (.cells #[v] 22) := hW1 ▸ zY _ _ (zY _ _ (zY _ _ (zY _ _ (qF _ _ rfl))));have k1 : W1.heap[w.heap.size + 1]? = some (.cells #[.int .i64 P.line, .int .i64 P.col] 24) := hW1 ▸ zY _ _ (zY _ _ (zY _ _ (qF _ _ qT)));have k3 : W1.heap[w.heap.size + 3]? = some (.cells #[.slice none 0 0] 22) := hW1 ▸ zY _ _ (qF _ _ qT);have k4 : W1.heap[w.heap.size + 4]? = some (.cells #[.int .i64 0] 48) := hW1 ▸ qF _ _ qT;have kS := zX hB hBs;have HB : Hid (∀ W, Below W1.heap.size W1 W → W.heap[Bs]? = some (.cells #[v, .int .i64 s.anc.line, .int .i64 s.anc.col, .int .i64 s.foc.line, .int .i64 s.foc.col, .int .i64 s.on, .int .i64 s.off] 26) ∧ W.heap[w.heap.size]? = some (.cells #[v] 22) ∧ W.heap[w.heap.size + 1]? = some (.cells #[.int .i64 P.line, .int .i64 P.col] 24) ∧ W.heap[w.heap.size + 3]? = some (.cells #[.slice none 0 0] 22) ∧ W.heap[w.heap.size + 4]? = some (.cells #[.int .i64 0] 48)) := zA fun W hW => ⟨zX hW kS, zX hW k0, zX hW k1, zX hW k3, zX hW k4⟩;have hs1 := hB.size;have hBw := (zL.1 hBs).1;have H1 := zA hB;have hw0 : Below W1.heap.size W1 W1 := zE _ _;have HV : Hid (∀ W, Below W1.heap.size W1 W → jC W S v s.lines) := zA fun W hW => h.below (zZ _) (hB.trans (hW.mono hs1));have HE : Hid (∀ W, Below W1.heap.size W1 W → EnvT W) := zA fun W hW => (he.below hB).below hW;have HR : Hid (zAq s = if (cellsD s.lines (jZ s).1 (jZ s).2).any (fun c => decide (c.href ≠ [])) = true then uB [] s.lines (jZ s).1 (jZ s).2 else ([], 7)) := zA rfl;have HVF := zA (zB hs hf);have HVw := zA (zB h he);have HH : Hid (∀ W, Below W1.heap.size W1 W → Calls zV 59 #[stV v s] W fun e w' => e = .returned (.tuple #[.agg #[.int .i64 (jZ s).1.line, .int .i64 (jZ s).1.col], .agg #[.int .i64 (jZ s).2.line, .int .i64 (jZ s).2.col]]) ∧ Below W.heap.size W w') := zA fun W hW => zEV v s W S (HV.out W hW) hf hm;obtain ⟨A, B, hAB⟩ : ∃ A B, jZ s = (A, B) := ⟨_, _, rfl⟩;rw [hAB] at HH HR;simp only at HH HR;have HLk : Hid (∀ W, Below W1.heap.size W1 W → Calls zV 127 #[v, posV A, posV B, .string ⟨#[]⟩] W (DocSaid (uB [] s.lines A B) W)) := zA fun W hW => zFk v s.lines A B [] W S (HV.out W hW) (HE.out W hW) hs hf qT;have HP : Hid (∀ p : Ps, posV p = .agg #[.int .i64 p.line, .int .i64 p.col]) := zA fun _ => rfl;rw [HP.out, HP.out] at HLk ⊢;have HL : Hid ((cellsD s.lines A B).length ≤ 100000) := zA (Nat.le_trans (uW _ _ _) hs.1);obtain ⟨X, er, hX⟩ : ∃ X er, uB [] s.lines A B = (X, er) := ⟨_, _, rfl⟩;rw [hX] at HLk HR;obtain ⟨p0, f0⟩ := blk k0;obtain ⟨p1, f1⟩ := blk k3;obtain ⟨p2, f2⟩ := blk k4;obtain ⟨p3, f3⟩ := blk kS;obtain ⟨va, vc, rfl⟩ := h.slice;clear h he hs hf hm hAB hX k0 k1 k3 k4 kS hBs hB;refine (callsIn_wide (n := 6)).1 ?_;refine callsIn_of_wp_marks Tryz.func128 rfl trivial ?_ rfl;simp only [Tryz.ntmps128, List.size_toArray, List.length_cons, List.length_nil, Nat.reduceAdd, Nat.reduceSub, Array.replicate_succ, Array.replicate_zero, List.push_toArray, List.append_toArray, List.nil_append, List.cons_append];have hwf : ∀ f, Fence.wide.fn f := fun _ => trivial;have hwd : Fence.wide.depth = none := rfl
 gi_wp2_with (first
  | (gi_at_call 59; refine (callsIn_wide.2 (HH.out _ hw0)).mono ?_; rintro e w2 ⟨rfl, hst2⟩; have hb2 := zW hw0 hst2; obtain ⟨q0, g0⟩ := blk (HB.out _ hb2).2.1; have hz2 := hb2.size; have r0 := on2 (HB.out _ hb2).2.1)
  | (gi_at_call 61; refine (callsIn_wide.2 (zDo _ _ _ A B _)).mono ?_; rintro e w5 ⟨rfl, rfl⟩))
 obtain ⟨w6, hw6⟩ : ∃ w6, ((((w2.alloc (.cells #[.int .i64 A.line, .int .i64 A.col] 24)).alloc (.cells #[.int .i64 B.line, .int .i64 B.col] 24)).alloc (.cells #[.slice va s.lines.length vc] 22)).alloc (.cells #[.int .i64 A.line, .int .i64 A.col] 24)).alloc (.cells #[.int .i64 B.line, .int .i64 B.col] 24) = w6 := ⟨_, rfl⟩;rw [hw6];have hb26 : Below w2.heap.size w2 w6 := hw6 ▸ zBH (vI (zE _ _) _ _) _ _ _;have hz6 : w6.heap.size = w2.heap.size + 5 := by rw [← hw6]; simp
 have m0 : w6.heap[w2.heap.size]? = some (.cells #[.int .i64 A.line, .int .i64 A.col] 24) := hw6 ▸ zY _ _ (zY _ _ (zY _ _ (zY _ _ (qF _ _ rfl))));have m1 : w6.heap[w2.heap.size + 1]? = some (.cells #[.int .i64 B.line, .int .i64 B.col] 24) := hw6 ▸ zY _ _ (zY _ _ (zY _ _ (qF _ _ qT)));have m2 : w6.heap[w2.heap.size + 1 + 1]? = some (.cells #[.slice va s.lines.length vc] 22) := hw6 ▸ zY _ _ (zY _ _ (qF _ _ qT));have m3 : w6.heap[w2.heap.size + 1 + 1 + 1]? = some (.cells #[.int .i64 A.line, .int .i64 A.col] 24) := hw6 ▸ zY _ _ (qF _ _ qT);have m4 : w6.heap[w2.heap.size + 1 + 1 + 2]? = some (.cells #[.int .i64 B.line, .int .i64 B.col] 24) := hw6 ▸ qF _ _ qT;have hb6 := zW hb2 hb26;have hbw : Below w.heap.size w w6 := H1.out.trans (hb6.mono hs1);have N0 := zA (zB m0 (zB m1 (zB m2 (zB m3 m4))));have hUI : UI w6 [] w6 := ⟨fun _ h => xE, zE _ _, zC _⟩;clear hw6 m0 m1 m2 m3 m4 q0 g0 r0 p0 f0 p1 f1 p2 f2 p3 f3 hW1
 refine zDd rfl qE (gf := 102) (lb := #[.pointer (some ⟨w2.heap.size + 1 + 1, 0, none⟩), .pointer (some ⟨w2.heap.size + 1 + 1 + 1, 0, none⟩), .pointer (some ⟨w2.heap.size + 1 + 1 + 2, 0, none⟩)]) rfl trivial (enters_of Tryz.func102 qC rfl)
  (encs := fun c : Cel => #[celV c]) (n₀ := w.heap.size) (base := w6.heap.size) (Bs := w.heap.size + 1) (S := fun ys => ys = cellsD s.lines A B) (Sp := fun pre => pre <+: cellsD s.lines A B) (N := 200000) (w0 := w6) ?seq qE qE (zE _ _) (fun _ => rfl)
  (UI w6) (UX (X, er) w w2.heap.size) (zMC w6) (zMB qE) hUI (fun _ _ h => h.2.2)
  (fun x => #[.int .i32 x.r, .int .i64 x.bits, .string ⟨x.href.toArray⟩]) 43 ?act ?assign ?body ?done ?stop
 case seq =>
  intro l J Jx W hW hJ _ hY h0;have hzW := hW.size;have hb1 := zW hb6 hW
  exact zDp 5 l (w2.heap.size + 1 + 1) (w2.heap.size + 1 + 1 + 1) (w2.heap.size + 1 + 1 + 2) w6.heap.size (w.heap.size + 1) (.slice va s.lines.length vc) s.lines A B S J Jx w W HVw.out.1 HVw.out.2 HVF.out.1 HVF.out.2 (hbw.trans (hW.mono hbw.size)) hW.size (zX hW N0.out.2.2.1) (zX hW N0.out.2.2.2.1) (zX hW N0.out.2.2.2.2) qE
   (by unfold yL; rw [jS (HB.out W hb1).2.2.1]; rfl) hJ hY h0
 case assign =>
  intro l pre x W K Bx hBx hI hK;unfold celV
  gi_wp2
  rw [← hBx];exact hK
 case body =>
  intro l pre x Bx W hI hBx hbx hlt;obtain ⟨hal, hb, hzW⟩ := hI;have hbW := zW hb6 hb;obtain ⟨sx, sxf⟩ := blk hbx;obtain ⟨s0, s0f⟩ := blk (HB.out _ hbW).2.1;obtain ⟨s1, s1f⟩ := blk (zX hb N0.out.1);obtain ⟨s2, s2f⟩ := blk (zX hb N0.out.2.1);have HA := zA (zB hal (zB hb (zB hzW hbW)));clear hal hb
  by_cases hx : x.href = []
  ·have HX := zA hx
   have hq : x.href.isEmpty = true := by simpa using hx
   clear hx
   gi_wp2_with fail
   exact ⟨KeepsFrom.refl _ _, Kd.of_below (by have := hbw.size; omega) qE (zE _ _), fun c hc => (by rcases List.mem_append.1 hc with h | h; exact HA.out.1 c h; rw [List.mem_singleton.1 h]; exact HX.out), HA.out.2.1, HA.out.2.2.1⟩
  ·have HX := zA hx
   have hq : x.href.isEmpty = false := by simpa using hx
   clear hx
   gi_wp2_with (gi_at_call 127; refine (callsIn_wide.2 (HLk.out _ HA.out.2.2.2)).mono ?_; intro e w7 hsaid; obtain ⟨v7, rfl, hv7, hb7⟩ := hsaid; obtain ⟨a7, c7, rfl⟩ := hv7.slice; have HV7 := zA hv7; clear hv7; have hx7 := zW HA.out.2.2.2 hb7; obtain ⟨t3, t3f⟩ := blk (HB.out _ hx7).2.2.2.1; obtain ⟨t4, t4f⟩ := blk (HB.out _ hx7).2.2.2.2)
   refine ⟨((uG hb7).from _).trans (((KeepsOthers.setCell _ _ _).trans (KeepsOthers.setCell _ _ _)).from _), rfl, ⟨x, by simp, HX.out⟩, .slice a7 X.length c7, ?_, ?_, ?_, ?_⟩
   ·rw [qR, if_neg qT, qR, if_pos rfl, (HB.out _ hx7).2.2.2.1]; rfl
   ·rw [qR, if_pos rfl, qR, if_neg qT, (HB.out _ hx7).2.2.2.2]; rfl
   ·have hv7 := HV7.out
    have hw7 := hb7.size;exact (qG (zZ _) hv7 jP (fun b h _ => jM))
   ·exact ((H1.out.trans (hx7.mono hs1)).setCell (by show w.heap.size ≤ w.heap.size + 3; omega) _).setCell (by show w.heap.size ≤ w.heap.size + 4; omega) _
 case done =>
  rintro D ys W hD hys ⟨hal, hb, hzW⟩ hK;subst hys;have hbW := zW hb6 hb;obtain ⟨t3, t3f⟩ := blk (HB.out _ hbW).2.2.2.1;obtain ⟨t4, t4f⟩ := blk (HB.out _ hbW).2.2.2.2
  have HR : Hid (zAq s = ([], 7)) := zA (HR.out.trans (if_neg (by
   rw [List.any_eq_true];rintro ⟨c, hc, hc2⟩;exact absurd (hal c hc) (by simpa using hc2))))
  have HB9 := zA hbW;have HK9 := zA hK;clear hal hb hK
  gi_wp2_with fail
  have r1 : ((W.setCell ⟨w.heap.size + 1 + 1 + 1, 0, none⟩ (.slice none 0 0)).setCell ⟨w.heap.size + 1 + 1 + 1 + 1, 0, none⟩ (.int .i64 7)).cell? ⟨w.heap.size + 1 + 1 + 1, 0, none⟩ = some (.slice none 0 0) := (kT qE).trans (yV (t3 0));have r2 : ((W.setCell ⟨w.heap.size + 1 + 1 + 1, 0, none⟩ (.slice none 0 0)).setCell ⟨w.heap.size + 1 + 1 + 1 + 1, 0, none⟩ (.int .i64 7)).cell? ⟨w.heap.size + 1 + 1 + 1 + 1, 0, none⟩ = some (.int .i64 7) := yV ((kT qE).trans (t4 0));have hK2 : ((W.setCell ⟨w.heap.size + 1 + 1 + 1, 0, none⟩ (.slice none 0 0)).setCell ⟨w.heap.size + 1 + 1 + 1 + 1, 0, none⟩ (.int .i64 7)).heap[D]? = some (.deferred (some [])) := by rw [qR, if_neg (by show ¬ w.heap.size + 1 + 1 + 1 + 1 = D; omega), qR, if_neg (by show ¬ w.heap.size + 1 + 1 + 1 = D; omega)]; exact HK9.out
  have hbE : Below w.heap.size w ((W.setCell ⟨w.heap.size + 1 + 1 + 1, 0, none⟩ (.slice none 0 0)).setCell ⟨w.heap.size + 1 + 1 + 1 + 1, 0, none⟩ (.int .i64 7)) := ((H1.out.trans (HB9.out.mono hs1)).setCell zEi _).setCell zCO _;refine ⟨by simp, .inl ⟨_, _, rfl, run_takeDeferred hK2, ?_⟩⟩;refine ⟨_, zEy rfl _ _ ⟨w.heap.size + 1 + 1 + 1, 0, none⟩ ⟨w.heap.size + 1 + 1 + 1 + 1, 0, none⟩ (.slice none 0 0) 7 ⟨_, _, _, rfl⟩ rfl rfl ((World.cell?_of_block (World.putObj_heap_other jD)).trans r1) ((World.cell?_of_block (World.putObj_heap_other jD)).trans r2), ?_⟩;unfold DocSaid;rw [HR.out];exact ⟨_, rfl, SliceR.nil _ _ _ _ _ _, hbE.trans (belowK_b (w := w) (zC _) _ D _ _ qE hK2 rfl rfl)⟩
 case stop =>
  rintro D c pre W hD hpre ⟨rfl, ⟨z, hz1, hz2⟩, v9, h3, h4, h5, h6⟩ hK
  have HR : Hid (zAq s = (X, er)) := zA (HR.out.trans (if_pos (by
   rw [List.any_eq_true];exact ⟨z, hpre.subset hz1, by simpa using hz2⟩)))
  obtain ⟨t3, t3f⟩ := blk h3;obtain ⟨t4, t4f⟩ := blk h4;obtain ⟨a9, c9, rfl⟩ := h5.slice;have HV9 := zA h5;have HB9 := zA h6;have HK9 := zA hK;clear h3 h4 h5 h6 hK hpre hz1 hz2
  gi_wp2_with fail
  refine ⟨by simp, .inl ⟨_, _, rfl, run_takeDeferred HK9.out, ?_⟩⟩;refine ⟨_, zEy rfl _ _ ⟨w.heap.size + 1 + 1 + 1, 0, none⟩ ⟨w.heap.size + 1 + 1 + 1 + 1, 0, none⟩ (.slice a9 X.length c9) er ⟨_, _, _, rfl⟩ rfl rfl ((World.cell?_of_block (World.putObj_heap_other jD)).trans (t3 0)) ((World.cell?_of_block (World.putObj_heap_other jD)).trans (t4 0)), ?_⟩;unfold DocSaid;rw [HR.out];exact ⟨_, rfl, qG (zZ true) ((zAt (β := Unit) D _ _ (fun _ => X)).putObj (s := ()) _ HV9.out (zC _) HK9.out rfl) (qM _ _) (fun b h _ => Nat.le_trans qE h), HB9.out.trans (belowK_b (w := w) (zC _) W D _ _ qE HK9.out rfl rfl)⟩
set_option maxRecDepth 100000 in
theorem zHF (v : Value) (s : St) (w : World) (S : Nat → Prop) (h : jC w S v s.lines) (he : EnvT w) (hs : Small s.lines) (hf : Fits s.lines) :
  Calls zV 75 #[stV v s] w (StSaid (yY s (zAq s)) w) := by
 obtain ⟨W1, hW1, hB, hz, k0, k2⟩ := yF w v s;have HB : Hid (∀ W, Below W1.heap.size W1 W → W.heap[w.heap.size]? = some (.cells #[v, .int .i64 s.anc.line, .int .i64 s.anc.col, .int .i64 s.foc.line, .int .i64 s.foc.col, .int .i64 s.on, .int .i64 s.off] 26) ∧ W.heap[w.heap.size + 1]? = some (.cells #[.slice none 0 0, .int .i64 0, .int .i64 0, .int .i64 0, .int .i64 0, .int .i64 0, .int .i64 0] 26)) := zA fun W hW => ⟨zX hW k0, zX hW k2⟩;have hs1 := hB.size;have H1 := zA hB
 have HC := zA (zBR v s 128 #[.pointer (some ⟨w.heap.size, 0, none⟩)] (zAq s) W1 S (h.below (zZ _) hB) (he.below hB) hs (enters_of Tryz.func128 qC rfl)
  (fun hm W hW => zHl w.heap.size v s (qV s).1 (qV s).2 W S (h.below (zZ _) (hB.trans (hW.mono hs1))) ((he.below hB).below hW) hs hf (vY hm).2.1 (zX hW k0)))
 obtain ⟨X, hX⟩ : ∃ X, yY s (zAq s) = X := ⟨_, rfl⟩;rw [hX] at HC ⊢;obtain ⟨p0, f0⟩ := blk k0;obtain ⟨p2, f2⟩ := blk k2;obtain ⟨va, vc, rfl⟩ := h.slice;clear h he hs hf hX k0 k2 hB;go_enter Tryz.func75, Tryz.ntmps75;go_wp2_with (go_at_call 124; refine HC.out.mono ?_; intro e w2 hsaid; obtain ⟨v2, rfl, hv2, hb2⟩ := hsaid; obtain ⟨a2, c2, rfl⟩ := hv2.slice; have HV2 := zA hv2; clear hv2; obtain ⟨q2, g2⟩ := blk (HB.out _ hb2).2);refine zM (jU rfl _ _ (w.heap.size + 1) (.slice a2 X.1.lines.length c2) (.int .i64 X.1.anc.line) (.int .i64 X.1.anc.col) (.int .i64 X.1.foc.line) (.int .i64 X.1.foc.col) (.int .i64 X.1.on) (.int .i64 X.1.off) (.int .i64 X.2) rfl rfl vV) rfl ?_;have hfin := H1.out.trans (hb2.mono hs1);have hv2 := HV2.out;exact ⟨_, rfl, (qG (zZ _) hv2 jP (fun b h _ => jM)), by ((with_reducible repeat' first | exact zE _ _ | assumption | refine zG ?_ ?_ _ | refine zH ?_ | refine qQ ?_ | refine zF ?_ ?_ _) <;> go_size)⟩
set_option maxRecDepth 100000 in
theorem vE (v : Value) (s : St) (a : ByteArray) (B g : Nat) (caps : Array Value) (X : St × Int) (w : World) (S : Nat → Prop) (h : jC w S v s.lines) (hB0 : w.heap[B]? = some (.cells #[.func (.func g) #[] caps] 93)) (eg : ∀ args w, (callFunc g args).run zV w = .ok (.enter g args) w)
  (hc : ∀ W, Below w.heap.size w W → Calls zV g (#[stV v s] ++ caps) W (StSaid X W)) :
  Calls zV 113 #[stV v s, .string a, .pointer (some ⟨B, 0, none⟩)] w (StSaid X w) := by
 obtain ⟨W1, hW1, hB, hz, k0, k2⟩ := yF w v s;have HB : Hid (∀ W, Below W1.heap.size W1 W → W.heap[w.heap.size]? = some (.cells #[v, .int .i64 s.anc.line, .int .i64 s.anc.col, .int .i64 s.foc.line, .int .i64 s.foc.col, .int .i64 s.on, .int .i64 s.off] 26) ∧ W.heap[w.heap.size + 1]? = some (.cells #[.slice none 0 0, .int .i64 0, .int .i64 0, .int .i64 0, .int .i64 0, .int .i64 0, .int .i64 0] 26)) := zA fun W hW => ⟨zX hW k0, zX hW k2⟩;have hs1 := hB.size;have H1 := zA hB;have HC := zA (hc W1 hB);obtain ⟨pb, fb⟩ := blk (zX hB hB0);obtain ⟨p0, f0⟩ := blk k0;obtain ⟨p1, f1⟩ := blk k2;obtain ⟨va, vc, rfl⟩ := h.slice;clear h hB k0 k2 hc hB0;go_enter Tryz.func113, Tryz.ntmps113;go_wp2_with (go_at_fn g; refine HC.out.mono ?_; rintro e w2 ⟨v2, rfl, hv2, hb2⟩; obtain ⟨a2, c2, rfl⟩ := hv2.slice; obtain ⟨q0, g0⟩ := blk (HB.out _ hb2).1; obtain ⟨q1, g1⟩ := blk (HB.out _ hb2).2; have HV := zA hv2; clear hv2);refine zM (jU rfl _ _ (w.heap.size + 1) (.slice a2 X.1.lines.length c2) (.int .i64 X.1.anc.line) (.int .i64 X.1.anc.col) (.int .i64 X.1.foc.line) (.int .i64 X.1.foc.col) (.int .i64 X.1.on) (.int .i64 X.1.off) (.int .i64 X.2) rfl rfl vV) rfl ?_;have hfin := H1.out.trans (hb2.mono hs1);have hv2 := HV.out;exact ⟨_, rfl, (qG (zZ _) hv2 jP (fun b h _ => jM)), by ((with_reducible repeat' first | exact zE _ _ | assumption | refine zG ?_ ?_ _ | refine zH ?_ | refine qQ ?_ | refine zF ?_ ?_ _) <;> go_size)⟩
set_option maxRecDepth 100000 in
theorem zBZ (v : Value) (s : St) (b : Int) (B : Nat) (w : World) (S : Nat → Prop) (h : jC w S v s.lines) (he : EnvT w) (hs : Small s.lines) (hf : Fits s.lines) (hB0 : w.heap[B]? = some (.cells #[.int .i64 b] 3)) :
  Calls zV 122 #[stV v s, .pointer (some ⟨B, 0, none⟩)] w (StSaid (uH s b) w) := by
 obtain ⟨W1, hW1, hB, hz, k0, k2⟩ := yF w v s;have HB : Hid (∀ W, Below W1.heap.size W1 W → W.heap[w.heap.size]? = some (.cells #[v, .int .i64 s.anc.line, .int .i64 s.anc.col, .int .i64 s.foc.line, .int .i64 s.foc.col, .int .i64 s.on, .int .i64 s.off] 26) ∧ W.heap[w.heap.size + 1]? = some (.cells #[.slice none 0 0, .int .i64 0, .int .i64 0, .int .i64 0, .int .i64 0, .int .i64 0, .int .i64 0] 26)) := zA fun W hW => ⟨zX hW k0, zX hW k2⟩;have hs1 := hB.size;have H1 := zA hB;have HC := zA (zHG v s b W1 S (h.below (zZ _) hB) (he.below hB) hs hf);obtain ⟨X, hX⟩ : ∃ X, uH s b = X := ⟨_, rfl⟩;rw [hX] at HC ⊢;obtain ⟨pb, fb⟩ := blk (zX hB hB0);obtain ⟨p0, f0⟩ := blk k0;obtain ⟨p1, f1⟩ := blk k2;obtain ⟨va, vc, rfl⟩ := h.slice;clear h he hs hf hB k0 k2 hB0 hX;go_enter Tryz.func122, Tryz.ntmps122;go_wp2_with (go_at_call 123; refine HC.out.mono ?_; rintro e w2 ⟨v2, rfl, hv2, hb2⟩; obtain ⟨a2, c2, rfl⟩ := hv2.slice; obtain ⟨q0, g0⟩ := blk (HB.out _ hb2).1; obtain ⟨q1, g1⟩ := blk (HB.out _ hb2).2; have HV := zA hv2; clear hv2);refine zM (jU rfl _ _ (w.heap.size + 1) (.slice a2 X.1.lines.length c2) (.int .i64 X.1.anc.line) (.int .i64 X.1.anc.col) (.int .i64 X.1.foc.line) (.int .i64 X.1.foc.col) (.int .i64 X.1.on) (.int .i64 X.1.off) (.int .i64 X.2) rfl rfl vV) rfl ?_;have hfin := H1.out.trans (hb2.mono hs1);have hv2 := HV.out;exact ⟨_, rfl, (qG (zZ _) hv2 jP (fun b h _ => jM)), by ((with_reducible repeat' first | exact zE _ _ | assumption | refine zG ?_ ?_ _ | refine zH ?_ | refine qQ ?_ | refine zF ?_ ?_ _) <;> go_size)⟩
set_option maxRecDepth 100000 in
theorem zFB (v : Value) (s : St) (b : Int) (B : Nat) (w : World) (S : Nat → Prop) (h : jC w S v s.lines) (he : EnvT w) (hs : Small s.lines) (hf : Fits s.lines) (hB0 : w.heap[B]? = some (.cells #[.int .i64 b] 3)) :
  Calls zV 136 #[stV v s, .pointer (some ⟨B, 0, none⟩)] w (StSaid (zAf b s) w) := by
 obtain ⟨W1, hW1, hB, hz, k0, k2⟩ := yF w v s;have HB : Hid (∀ W, Below W1.heap.size W1 W → W.heap[w.heap.size]? = some (.cells #[v, .int .i64 s.anc.line, .int .i64 s.anc.col, .int .i64 s.foc.line, .int .i64 s.foc.col, .int .i64 s.on, .int .i64 s.off] 26) ∧ W.heap[w.heap.size + 1]? = some (.cells #[.slice none 0 0, .int .i64 0, .int .i64 0, .int .i64 0, .int .i64 0, .int .i64 0, .int .i64 0] 26)) := zA fun W hW => ⟨zX hW k0, zX hW k2⟩;have hs1 := hB.size;have H1 := zA hB;have HC := zA (zJF v s b W1 S (h.below (zZ _) hB) (he.below hB) hs hf);obtain ⟨X, hX⟩ : ∃ X, zAf b s = X := ⟨_, rfl⟩;rw [hX] at HC ⊢;obtain ⟨pb, fb⟩ := blk (zX hB hB0);obtain ⟨p0, f0⟩ := blk k0;obtain ⟨p1, f1⟩ := blk k2;obtain ⟨va, vc, rfl⟩ := h.slice;clear h he hs hf hB k0 k2 hB0 hX;go_enter Tryz.func136, Tryz.ntmps136;go_wp2_with (go_at_call 137; refine HC.out.mono ?_; rintro e w2 ⟨v2, rfl, hv2, hb2⟩; obtain ⟨a2, c2, rfl⟩ := hv2.slice; obtain ⟨q0, g0⟩ := blk (HB.out _ hb2).1; obtain ⟨q1, g1⟩ := blk (HB.out _ hb2).2; have HV := zA hv2; clear hv2);refine zM (jU rfl _ _ (w.heap.size + 1) (.slice a2 X.1.lines.length c2) (.int .i64 X.1.anc.line) (.int .i64 X.1.anc.col) (.int .i64 X.1.foc.line) (.int .i64 X.1.foc.col) (.int .i64 X.1.on) (.int .i64 X.1.off) (.int .i64 X.2) rfl rfl vV) rfl ?_;have hfin := H1.out.trans (hb2.mono hs1);have hv2 := HV.out;exact ⟨_, rfl, (qG (zZ _) hv2 jP (fun b h _ => jM)), by ((with_reducible repeat' first | exact zE _ _ | assumption | refine zG ?_ ?_ _ | refine zH ?_ | refine qQ ?_ | refine zF ?_ ?_ _) <;> go_size)⟩
set_option maxRecDepth 100000 in
theorem zJO (v : Value) (s : St) (w : World) (S : Nat → Prop) (h : jC w S v s.lines) (he : EnvT w) (hs : Small s.lines) (hf : Fits s.lines) :
  Calls zV 69 #[stV v s] w (StSaid (keyS s (uS s ⟨#[10]⟩)) w) := by
 obtain ⟨W1, hW1, hB, hz, k0, k2⟩ := yF w v s;have HB : Hid (∀ W, Below W1.heap.size W1 W → W.heap[w.heap.size]? = some (.cells #[v, .int .i64 s.anc.line, .int .i64 s.anc.col, .int .i64 s.foc.line, .int .i64 s.foc.col, .int .i64 s.on, .int .i64 s.off] 26) ∧ W.heap[w.heap.size + 1]? = some (.cells #[.slice none 0 0, .int .i64 0, .int .i64 0, .int .i64 0, .int .i64 0, .int .i64 0, .int .i64 0] 26)) := zA fun W hW => ⟨zX hW k0, zX hW k2⟩;have hs1 := hB.size;have H1 := zA hB;have HC := zA (zEU v s ⟨#[10]⟩ W1 S (h.below (zZ _) hB) (he.below hB) hs hf jA);obtain ⟨X, hX⟩ : ∃ X, keyS s (uS s ⟨#[10]⟩) = X := ⟨_, rfl⟩;rw [hX] at HC ⊢;obtain ⟨p0, f0⟩ := blk k0;obtain ⟨p1, f1⟩ := blk k2;obtain ⟨va, vc, rfl⟩ := h.slice;clear h he hs hf hB k0 k2 hX;go_enter Tryz.func69, Tryz.ntmps69;go_wp2_with (go_at_call 67; refine HC.out.mono ?_; rintro e w2 ⟨v2, rfl, hv2, hb2⟩; obtain ⟨a2, c2, rfl⟩ := hv2.slice; obtain ⟨q0, g0⟩ := blk (HB.out _ hb2).1; obtain ⟨q1, g1⟩ := blk (HB.out _ hb2).2; have HV := zA hv2; clear hv2);refine zM (jU rfl _ _ (w.heap.size + 1) (.slice a2 X.1.lines.length c2) (.int .i64 X.1.anc.line) (.int .i64 X.1.anc.col) (.int .i64 X.1.foc.line) (.int .i64 X.1.foc.col) (.int .i64 X.1.on) (.int .i64 X.1.off) (.int .i64 X.2) rfl rfl vV) rfl ?_;have hfin := H1.out.trans (hb2.mono hs1);have hv2 := HV.out;exact ⟨_, rfl, (qG (zZ _) hv2 jP (fun b h _ => jM)), by ((with_reducible repeat' first | exact zE _ _ | assumption | refine zG ?_ ?_ _ | refine zH ?_ | refine qQ ?_ | refine zF ?_ ?_ _) <;> go_size)⟩
end Go.Proofs.YtjgeadoncanheaaGreatDoor
