/- Parts of the proof. -/
import Derived.Test.YtcliojeoindceaaGreatDoorBlkEachY
import Derived.Test.YtcliojeoindceaaGreatDoorQryAllY
import Derived.Test.YtcliojeoindceaaGreatDoorStSpanY
import Derived.Test.YtcliojeoindceaaGreatDoorLaidY
import Derived.Test.YtcliojeoindceaaGreatDoorAttrWalkY
import Derived.Test.YtcliojeoindceaaGreatDoorPartBaseY
import Derived.Test.YtcliojeoindceaaGreatDoorRunesY
import Derived.Lib.OthersKept
import Derived.Lib.RuneCount
set_option linter.unusedVariables false
set_option linter.unusedSimpArgs false
set_option maxHeartbeats 8000000
namespace Go.Proofs.YtcliojeoindceaaGreatDoor
open Go.RowKit
open Go.Proofs.Qw
attribute [local go_sem] Oper.semAt_some
open _root_.Go.Lib renaming hid → zA
open _root_.And renaming intro → zB
open _root_.Nat renaming le_refl → zC
open _root_.Go.RowKit.Below renaming refl → zE, setCell → zF, alloc → zG, drew → zH
open _root_.Go renaming bodyPost_ret → zM
open _root_.Go.Proofs.Tryz renaming prog → zV
open _root_.Go.Proofs.YtcliojeoindceaaGreatDoor renaming jG → zX, jI → zY, jK → zZ, jF → qG, jQ → qR, jO → qT
open _root_.Go.Proofs.Qw renaming jW → qB
open _root_.Go.Proofs.Qw.SliceR renaming stable → qH
open _root_.Go.Proofs.Qw.Keeps renaming refl → qN, alloc → qO, drew → qP, set → qQ
set_option maxRecDepth 100000 in
theorem zHQ (Bk : Nat) (kind : Int) (l : Lin) (la ca : Option Addr) (lc cc : Nat) (w w0 : World) (S : Nat → Prop) (hkk : 0 ≤ kind ∧ kind ≤ 3) (hk : w.heap[Bk]? = some (.cells #[.int .i64 kind] 3)) (hL : jJ false w0 S (.slice la l.lists.length lc) l.lists) (hC : jE false w0 S (.slice ca l.cells.length cc) l.cells) (h0 : Below w0.heap.size w0 w)
  (he : EnvT w) (hs : l.lists.length ≤ 1000000 ∧ l.cells.length ≤ 1000000) (hh : ∀ c ∈ l.cells, c.href.length ≤ 1000000) (hm : mayL l = true) :
  Calls zV 253 #[linV l (.slice la l.lists.length lc) (.slice ca l.cells.length cc), .pointer (some ⟨Bk, 0, none⟩)] w (vR w (yE kind l)) := by
 obtain ⟨W1, hW1, hB, hz, hA1, hA2⟩ := zAo w (.int .i64 l.quote) (.slice la l.lists.length lc) (.int .i64 l.kind) (.slice ca l.cells.length cc) (.int .i64 0) (.slice none 0 0) (.int .i64 0) (.slice none 0 0);have HT := zA (zHM kind l la ca lc cc W1 w0 S hkk hL hC (zX h0 hB) (he.below hB) hs hh hm);have hs1 := hB.size;have hk1 := zY hB hk;have HB0 : Hid (∀ W, Below W1.heap.size W1 W → W.heap[w.heap.size]? = some (.cells #[.int .i64 l.quote, .slice la l.lists.length lc, .int .i64 l.kind, .slice ca l.cells.length cc] 60) ∧ W.heap[w.heap.size + 1]? = some (.cells #[.int .i64 0, .slice none 0 0, .int .i64 0, .slice none 0 0] 60)) := zA fun W hW => ⟨zY hW hA1, zY hW hA2⟩;have H1 := zA hB;obtain ⟨p0, f0⟩ := blk hk1;obtain ⟨p1, f1⟩ := blk hA1;obtain ⟨p2, f2⟩ := blk hA2;obtain ⟨r, hr⟩ : ∃ r, yE kind l = r := ⟨_, rfl⟩;rw [hr] at HT ⊢;clear hL hC hs hB h0 hr hm he hk hk1;unfold linV at HT ⊢;cases r with
 | none =>
  go_enter Tryz.func253, Tryz.ntmps253;go_wp2_with (go_at_call 254; refine HT.out.mono ?_; rintro e w2 ⟨_, he2, hb2⟩; obtain rfl := he2 rfl; obtain ⟨hA3, hA4⟩ := HB0.out _ hb2; obtain ⟨q0, g0⟩ := blk hA3; obtain ⟨q1, g1⟩ := blk hA4);refine zM (xO rfl _ _ (w.heap.size + 1) (.int .i64 0) (.slice none 0 0) (.int .i64 0) (.slice none 0 0) rfl yT) rfl ?_;refine ⟨fun l' h => kY, fun _ => rfl, ?_⟩;have := H1.out.trans (hb2.mono hs1)
  ((with_reducible repeat' first | exact zE _ _ | assumption | refine zG ?_ ?_ _ | refine zH ?_ | refine qR ?_ | refine zF ?_ ?_ _) <;> go_size)
 | some l' =>
  go_enter Tryz.func253, Tryz.ntmps253;go_wp2_with (go_at_call 254; refine HT.out.mono ?_; rintro e w2 ⟨he2, _, hb2⟩; obtain ⟨a', b', rfl, ha', hb'⟩ := he2 _ rfl; obtain ⟨a1, c1, rfl⟩ := ha'.slice; obtain ⟨a2, c2, rfl⟩ := hb'.slice; obtain ⟨hA3, hA4⟩ := HB0.out _ hb2; obtain ⟨q0, g0⟩ := blk hA3; obtain ⟨q1, g1⟩ := blk hA4);refine zM (xO rfl _ _ (w.heap.size + 1) (.int .i64 l'.quote) (.slice a1 l'.lists.length c1) (.int .i64 l'.kind) (.slice a2 l'.cells.length c2) rfl yT) rfl ?_;refine ⟨fun l'' h => ?_, fun h => kY, ?_⟩
  ·cases h
   exact ⟨_, _, rfl, (qH (jZ _) ha' jN (fun b h _ => jL)), (qH (jZ _) hb' jN (fun b h _ => jL))⟩
  ·have := H1.out.trans (hb2.mono hs1)
   ((with_reducible repeat' first | exact zE _ _ | assumption | refine zG ?_ ?_ _ | refine zH ?_ | refine qR ?_ | refine zF ?_ ?_ _) <;> go_size)
set_option maxRecDepth 100000 in
theorem zIR (Bk : Nat) (kind : Int) (l : Lin) (la ca : Option Addr) (lc cc : Nat) (w w0 : World) (S : Nat → Prop) (hkk : kind = 0 ∨ kind = 1) (hk : w.heap[Bk]? = some (.cells #[.int .i64 kind] 3)) (hL : jJ false w0 S (.slice la l.lists.length lc) l.lists) (hC : jE false w0 S (.slice ca l.cells.length cc) l.cells) (h0 : Below w0.heap.size w0 w)
  (he : EnvT w) (hs : l.lists.length ≤ 1000000 ∧ l.cells.length ≤ 1000000) (hh : ∀ c ∈ l.cells, c.href.length ≤ 1000000) (hm : mayL l = true) :
  Calls zV 257 #[linV l (.slice la l.lists.length lc) (.slice ca l.cells.length cc), .pointer (some ⟨Bk, 0, none⟩)] w (vR w (xW kind l)) := by
 obtain ⟨W1, hW1, hB, hz, hA1, hA2⟩ := zAo w (.int .i64 l.quote) (.slice la l.lists.length lc) (.int .i64 l.kind) (.slice ca l.cells.length cc) (.int .i64 0) (.slice none 0 0) (.int .i64 0) (.slice none 0 0);have HT := zA (zIz kind l la ca lc cc W1 w0 S hkk hL hC (zX h0 hB) (he.below hB) hs hh hm);have hs1 := hB.size;have hk1 := zY hB hk;have HB0 : Hid (∀ W, Below W1.heap.size W1 W → W.heap[w.heap.size]? = some (.cells #[.int .i64 l.quote, .slice la l.lists.length lc, .int .i64 l.kind, .slice ca l.cells.length cc] 60) ∧ W.heap[w.heap.size + 1]? = some (.cells #[.int .i64 0, .slice none 0 0, .int .i64 0, .slice none 0 0] 60)) := zA fun W hW => ⟨zY hW hA1, zY hW hA2⟩;have H1 := zA hB;obtain ⟨p0, f0⟩ := blk hk1;obtain ⟨p1, f1⟩ := blk hA1;obtain ⟨p2, f2⟩ := blk hA2;obtain ⟨r, hr⟩ : ∃ r, xW kind l = r := ⟨_, rfl⟩;rw [hr] at HT ⊢;clear hL hC hs hB h0 hr hm he hk hk1;unfold linV at HT ⊢;cases r with
 | none =>
  go_enter Tryz.func257, Tryz.ntmps257;go_wp2_with (go_at_call 258; refine HT.out.mono ?_; rintro e w2 ⟨_, he2, hb2⟩; obtain rfl := he2 rfl; obtain ⟨hA3, hA4⟩ := HB0.out _ hb2; obtain ⟨q0, g0⟩ := blk hA3; obtain ⟨q1, g1⟩ := blk hA4);refine zM (xO rfl _ _ (w.heap.size + 1) (.int .i64 0) (.slice none 0 0) (.int .i64 0) (.slice none 0 0) rfl yT) rfl ?_;refine ⟨fun l' h => kY, fun _ => rfl, ?_⟩;have := H1.out.trans (hb2.mono hs1)
  ((with_reducible repeat' first | exact zE _ _ | assumption | refine zG ?_ ?_ _ | refine zH ?_ | refine qR ?_ | refine zF ?_ ?_ _) <;> go_size)
 | some l' =>
  go_enter Tryz.func257, Tryz.ntmps257;go_wp2_with (go_at_call 258; refine HT.out.mono ?_; rintro e w2 ⟨he2, _, hb2⟩; obtain ⟨a', b', rfl, ha', hb'⟩ := he2 _ rfl; obtain ⟨a1, c1, rfl⟩ := ha'.slice; obtain ⟨a2, c2, rfl⟩ := hb'.slice; obtain ⟨hA3, hA4⟩ := HB0.out _ hb2; obtain ⟨q0, g0⟩ := blk hA3; obtain ⟨q1, g1⟩ := blk hA4);refine zM (xO rfl _ _ (w.heap.size + 1) (.int .i64 l'.quote) (.slice a1 l'.lists.length c1) (.int .i64 l'.kind) (.slice a2 l'.cells.length c2) rfl yT) rfl ?_;refine ⟨fun l'' h => ?_, fun h => kY, ?_⟩
  ·cases h
   exact ⟨_, _, rfl, (qH (jZ _) ha' jN (fun b h _ => jL)), (qH (jZ _) hb' jN (fun b h _ => jL))⟩
  ·have := H1.out.trans (hb2.mono hs1)
   ((with_reducible repeat' first | exact zE _ _ | assumption | refine zG ?_ ?_ _ | refine zH ?_ | refine qR ?_ | refine zF ?_ ?_ _) <;> go_size)
set_option maxRecDepth 100000 in
theorem zIe (v : Value) (s : St) (w : World) (S : Nat → Prop) (h : jD w S v s.lines) (he : EnvT w) (hs : Small s.lines) (hf : Fits s.lines) :
  Calls zV 83 #[stV v s] w (StSaid (kI vG s) w) := by
 obtain ⟨W1, hW1, hB, hz, k0, k2⟩ := xU w v s;have HB : Hid (∀ W, Below W1.heap.size W1 W → W.heap[w.heap.size]? = some (.cells #[v, .int .i64 s.anc.line, .int .i64 s.anc.col, .int .i64 s.foc.line, .int .i64 s.foc.col, .int .i64 s.on, .int .i64 s.off] 26) ∧ W.heap[w.heap.size + 1]? = some (.cells #[.slice none 0 0, .int .i64 0, .int .i64 0, .int .i64 0, .int .i64 0, .int .i64 0, .int .i64 0] 26)) := zA fun W hW => ⟨zY hW k0, zY hW k2⟩;have hs1 := hB.size;have H1 := zA hB
 have HC := zA (zBH v s 167 #[] vG W1 S (h.below (qB _) hB) (he.below hB) hs hf (enters_of Tryz.func167 zT rfl)
  (fun W l la ca lc cc hW hl hm hL hC => zHL l la ca lc cc W W1 S hL hC hW ((he.below hB).below hW) (hf.2 l hl) (hs.2.2 l hl) hm))
 obtain ⟨X, hX⟩ : ∃ X, kI vG s = X := ⟨_, rfl⟩;rw [hX] at HC ⊢;obtain ⟨p0, f0⟩ := blk k0;obtain ⟨p1, f1⟩ := blk k2;obtain ⟨va, vc, rfl⟩ := h.slice;clear h he hs hf hB hX k0 k2;go_enter Tryz.func83, Tryz.ntmps83;go_wp2_with (go_at_call 166; refine HC.out.mono ?_; rintro e w2 ⟨v2, rfl, hv2, hb2⟩; obtain ⟨a2, c2, rfl⟩ := hv2.slice; obtain ⟨q0, g0⟩ := blk (HB.out _ hb2).1; obtain ⟨q1, g1⟩ := blk (HB.out _ hb2).2; have HV := zA hv2; clear hv2);refine zM (jS rfl _ _ (w.heap.size + 1) (.slice a2 X.1.lines.length c2) (.int .i64 X.1.anc.line) (.int .i64 X.1.anc.col) (.int .i64 X.1.foc.line) (.int .i64 X.1.foc.col) (.int .i64 X.1.on) (.int .i64 X.1.off) (.int .i64 X.2) rfl rfl vO) rfl ?_;have hfin := H1.out.trans (hb2.mono hs1);have hv2 := HV.out;exact ⟨_, rfl, (qH (qB _) hv2 jN (fun b h _ => jL)), by ((with_reducible repeat' first | exact zE _ _ | assumption | refine zG ?_ ?_ _ | refine zH ?_ | refine qR ?_ | refine zF ?_ ?_ _) <;> go_size)⟩
set_option maxRecDepth 100000 in
theorem zHO (v : Value) (s : St) (w : World) (S : Nat → Prop) (h : jD w S v s.lines) (he : EnvT w) (hs : Small s.lines) (hf : Fits s.lines) :
  Calls zV 84 #[stV v s] w (StSaid (kI kM s) w) := by
 obtain ⟨W1, hW1, hB, hz, k0, k2⟩ := xU w v s;have HB : Hid (∀ W, Below W1.heap.size W1 W → W.heap[w.heap.size]? = some (.cells #[v, .int .i64 s.anc.line, .int .i64 s.anc.col, .int .i64 s.foc.line, .int .i64 s.foc.col, .int .i64 s.on, .int .i64 s.off] 26) ∧ W.heap[w.heap.size + 1]? = some (.cells #[.slice none 0 0, .int .i64 0, .int .i64 0, .int .i64 0, .int .i64 0, .int .i64 0, .int .i64 0] 26)) := zA fun W hW => ⟨zY hW k0, zY hW k2⟩;have hs1 := hB.size;have H1 := zA hB
 have HC := zA (zBH v s 147 #[] kM W1 S (h.below (qB _) hB) (he.below hB) hs hf (enters_of Tryz.func147 zT rfl)
  (fun W l la ca lc cc hW hl hm hL hC => zDf l la ca lc cc W W1 S hL hC hW ((he.below hB).below hW) (hf.2 l hl) (hs.2.2 l hl) hm))
 obtain ⟨X, hX⟩ : ∃ X, kI kM s = X := ⟨_, rfl⟩;rw [hX] at HC ⊢;obtain ⟨p0, f0⟩ := blk k0;obtain ⟨p1, f1⟩ := blk k2;obtain ⟨va, vc, rfl⟩ := h.slice;clear h he hs hf hB hX k0 k2;go_enter Tryz.func84, Tryz.ntmps84;go_wp2_with (go_at_call 166; refine HC.out.mono ?_; rintro e w2 ⟨v2, rfl, hv2, hb2⟩; obtain ⟨a2, c2, rfl⟩ := hv2.slice; obtain ⟨q0, g0⟩ := blk (HB.out _ hb2).1; obtain ⟨q1, g1⟩ := blk (HB.out _ hb2).2; have HV := zA hv2; clear hv2);refine zM (jS rfl _ _ (w.heap.size + 1) (.slice a2 X.1.lines.length c2) (.int .i64 X.1.anc.line) (.int .i64 X.1.anc.col) (.int .i64 X.1.foc.line) (.int .i64 X.1.foc.col) (.int .i64 X.1.on) (.int .i64 X.1.off) (.int .i64 X.2) rfl rfl vO) rfl ?_;have hfin := H1.out.trans (hb2.mono hs1);have hv2 := HV.out;exact ⟨_, rfl, (qH (qB _) hv2 jN (fun b h _ => jL)), by ((with_reducible repeat' first | exact zE _ _ | assumption | refine zG ?_ ?_ _ | refine zH ?_ | refine qR ?_ | refine zF ?_ ?_ _) <;> go_size)⟩
theorem zFz (w : World) (v : Value) (s : St) (k : Int) : ∃ W1, ((w.alloc (.cells #[v, .int .i64 s.anc.line, .int .i64 s.anc.col, .int .i64 s.foc.line, .int .i64 s.foc.col, .int .i64 s.on, .int .i64 s.off] 26)).alloc (.cells #[.int .i64 k] 3)).alloc (.cells #[.slice none 0 0, .int .i64 0, .int .i64 0, .int .i64 0, .int .i64 0, .int .i64 0, .int .i64 0] 26) = W1 ∧ Below w.heap.size w W1 ∧ w.heap.size + 3 = W1.heap.size ∧
  W1.heap[w.heap.size]? = some (.cells #[v, .int .i64 s.anc.line, .int .i64 s.anc.col, .int .i64 s.foc.line, .int .i64 s.foc.col, .int .i64 s.on, .int .i64 s.off] 26) ∧ W1.heap[w.heap.size + 1]? = some (.cells #[.int .i64 k] 3) ∧ W1.heap[w.heap.size + 2]? = some (.cells #[.slice none 0 0, .int .i64 0, .int .i64 0, .int .i64 0, .int .i64 0, .int .i64 0, .int .i64 0] 26) :=
 ⟨_, rfl, (((zE _ _).alloc (zC _) _).alloc qF _).alloc jB _, by simp, zZ _ _ (zZ _ _ (qG _ _ rfl)), zZ _ _ (qG _ _ qF), qG _ _ qF⟩
set_option maxRecDepth 100000 in
theorem zCm (v : Value) (s : St) (k : Int) (w : World) (S : Nat → Prop) (h : jD w S v s.lines) (he : EnvT w) (hs : Small s.lines) (hf : Fits s.lines) :
  Calls zV 165 #[stV v s, .int .i64 k] w (StSaid (yL k s) w) := by
 obtain ⟨W1, hW1, hB, hz, k0, k1, k2⟩ := zFz w v s k;have HB : Hid (∀ W, Below W1.heap.size W1 W → W.heap[w.heap.size]? = some (.cells #[v, .int .i64 s.anc.line, .int .i64 s.anc.col, .int .i64 s.foc.line, .int .i64 s.foc.col, .int .i64 s.on, .int .i64 s.off] 26) ∧ W.heap[w.heap.size + 2]? = some (.cells #[.slice none 0 0, .int .i64 0, .int .i64 0, .int .i64 0, .int .i64 0, .int .i64 0, .int .i64 0] 26)) := zA fun W hW => ⟨zY hW k0, zY hW k2⟩;have hs1 := hB.size;have H1 := zA hB
 have HC : Hid (0 ≤ k ∧ k ≤ 3 → Calls zV 166 #[stV v s, .func (.func 253) #[] #[.pointer (some ⟨w.heap.size + 1, 0, none⟩)]] W1 (StSaid (kI (yE k) s) W1)) := zA fun hk => zBH v s 253 #[.pointer (some ⟨w.heap.size + 1, 0, none⟩)] (yE k) W1 S (h.below (qB _) hB) (he.below hB) hs hf (enters_of Tryz.func253 zT rfl)
  (fun W l la ca lc cc hW hl hm hL hC => zHQ (w.heap.size + 1) k l la ca lc cc W W1 S hk (zY hW k1) hL hC hW ((he.below hB).below hW) (hf.2 l hl) (hs.2.2 l hl) hm)
 have HR := zA (show yL k s = if k < 0 ∨ 3 < k then (noS, 1) else kI (yE k) s from rfl);obtain ⟨p0, f0⟩ := blk k0;obtain ⟨p1, f1⟩ := blk k1;obtain ⟨p2, f2⟩ := blk k2;obtain ⟨va, vc, rfl⟩ := h.slice;have HK2 := zA k2;clear h he hs hf hB k0 k1 k2;rcases (show k < 0 ∨ (¬ k < 0 ∧ 3 < k) ∨ (¬ k < 0 ∧ ¬ 3 < k) by omega) with hk | ⟨hk, hk3⟩ | ⟨hk, hk3⟩
 ·have HR : Hid (yL k s = (noS, 1)) := zA (HR.out.trans (if_pos (.inl hk)))
  go_enter Tryz.func165, Tryz.ntmps165;go_wp2_with fail;refine zM (jS rfl _ _ (w.heap.size + 2) (.slice none 0 0) (.int .i64 0) (.int .i64 0) (.int .i64 0) (.int .i64 0) (.int .i64 0) (.int .i64 0) (.int .i64 1) rfl rfl (by simp [qT, jA, HK2.out])) rfl ?_;unfold StSaid;rw [HR.out];have hfin := H1.out;exact ⟨_, rfl, SliceR.nil _ _ _ _ _ _, by ((with_reducible repeat' first | exact zE _ _ | assumption | refine zG ?_ ?_ _ | refine zH ?_ | refine qR ?_ | refine zF ?_ ?_ _) <;> go_size)⟩
 ·have HR : Hid (yL k s = (noS, 1)) := zA (HR.out.trans (if_pos (.inr hk3)))
  go_enter Tryz.func165, Tryz.ntmps165;go_wp2_with fail;refine zM (jS rfl _ _ (w.heap.size + 2) (.slice none 0 0) (.int .i64 0) (.int .i64 0) (.int .i64 0) (.int .i64 0) (.int .i64 0) (.int .i64 0) (.int .i64 1) rfl rfl (by simp [qT, jA, HK2.out])) rfl ?_;unfold StSaid;rw [HR.out];have hfin := H1.out;exact ⟨_, rfl, SliceR.nil _ _ _ _ _ _, by ((with_reducible repeat' first | exact zE _ _ | assumption | refine zG ?_ ?_ _ | refine zH ?_ | refine qR ?_ | refine zF ?_ ?_ _) <;> go_size)⟩
 ·have HR : Hid (yL k s = kI (yE k) s) := zA (HR.out.trans (if_neg (fun e => e.elim hk hk3)))
  have HC := zA (HC.out ⟨by omega, by omega⟩);obtain ⟨X, hX⟩ : ∃ X, kI (yE k) s = X := ⟨_, rfl⟩;rw [hX] at HC HR;rw [HR.out];clear hX HR;go_enter Tryz.func165, Tryz.ntmps165;go_wp2_with (go_at_call 166; refine HC.out.mono ?_; rintro e w2 ⟨v2, rfl, hv2, hb2⟩; obtain ⟨a2, c2, rfl⟩ := hv2.slice; obtain ⟨q0, g0⟩ := blk (HB.out _ hb2).1; obtain ⟨q1, g1⟩ := blk (HB.out _ hb2).2; have HV := zA hv2; clear hv2);refine zM (jS rfl _ _ (w.heap.size + 2) (.slice a2 X.1.lines.length c2) (.int .i64 X.1.anc.line) (.int .i64 X.1.anc.col) (.int .i64 X.1.foc.line) (.int .i64 X.1.foc.col) (.int .i64 X.1.on) (.int .i64 X.1.off) (.int .i64 X.2) rfl rfl vO) rfl ?_;have hfin := H1.out.trans (hb2.mono hs1);have hv2 := HV.out;exact ⟨_, rfl, (qH (qB _) hv2 jN (fun b h _ => jL)), by ((with_reducible repeat' first | exact zE _ _ | assumption | refine zG ?_ ?_ _ | refine zH ?_ | refine qR ?_ | refine zF ?_ ?_ _) <;> go_size)⟩
theorem zFD {fn : Func} {p u : Tmp} (h : fn.results = #[.cell p 4, .cell u 4]) (tmps : Array Value) (w : World) (a b : Addr) (x y : Bool) (hp : tmps.getD p undef = .pointer (some a)) (hu : tmps.getD u undef = .pointer (some b)) (h1 : w.cell? a = some (.bool x)) (h2 : w.cell? b = some (.bool y)) :
  (results fn tmps).run zV w = .ok (.tuple #[.bool x, .bool y]) w := by
 simp only [results, h];simp at hp hu;simp [go_sem, hp, hu, h1, h2]
theorem zDD {fn : Func} {p u : Tmp} (h : fn.results = #[.cell p 3, .cell u 4]) (tmps : Array Value) (w : World) (a b : Addr) (x : Int) (y : Bool) (hp : tmps.getD p undef = .pointer (some a)) (hu : tmps.getD u undef = .pointer (some b)) (h1 : w.cell? a = some (.int .i64 x)) (h2 : w.cell? b = some (.bool y)) :
  (results fn tmps).run zV w = .ok (.tuple #[.int .i64 x, .bool y]) w := by
 simp only [results, h];simp at hp hu;simp [go_sem, hp, hu, h1, h2]
theorem zHP (kind : Int) (l : Lin) (la ca : Option Addr) (lc cc : Nat) (w w0 : World) (S : Nat → Prop) (hL : jJ false w0 S (.slice la l.lists.length lc) l.lists) (h0 : Below w0.heap.size w0 w) :
  Calls zV 195 #[linV l (.slice la l.lists.length lc) (.slice ca l.cells.length cc), .int .i64 kind] w fun e w' => e = .returned (.bool (kJ kind l)) ∧ Below w.heap.size w w' := by
 obtain ⟨a, c, he, hc, hm, hx⟩ := zAH hL;cases he;unfold maxLen at hm;unfold linV
 by_cases hn : l.lists = []
 ·have HR : Hid (kJ kind l = false) := zA (by unfold kJ; simp [hn])
  have hl0 : ¬ (0 : Int) < ((l.lists.length : Nat) : Int) := by rw [hn]; decide
  have hl1 : ¬ 0 < l.lists.length := by rw [hn]; decide
  have hl2 : decide ((0 : Int) < ((l.lists.length : Nat) : Int)) = false := decide_eq_false hl0;clear hL hx hn;go_enter Tryz.func195, Tryz.ntmps195;go_wp2_with fail;go_ret;rw [HR.out];exact ⟨rfl, by ((with_reducible repeat' first | exact zE _ _ | assumption | refine zG ?_ ?_ _ | refine zH ?_ | refine qR ?_ | refine zF ?_ ?_ _) <;> go_size)⟩
 ·obtain ⟨n, hnl⟩ : ∃ n, l.lists.length = n + 1 := ⟨l.lists.length - 1, by have := List.length_pos_iff.2 hn; omega⟩
  obtain ⟨x, hx0, _⟩ := jP l.lists n qD;obtain ⟨b, o, rfl, hz, c0⟩ := hx n x hx0
  have HR : Hid (kJ kind l = (x == kind)) := zA (by
   unfold kJ xE;rw [List.getLastD_eq_getLast?, List.getLast?_eq_getElem?, hnl, Nat.add_sub_cancel, hx0]
   by_cases e : x = kind <;> simp [hn, e])
  have hcw := (h0.cell (p := ⟨b, o + n, none⟩) hz).trans c0;have hbw : b < w.heap.size := Nat.lt_of_lt_of_le hz h0.size;have c1 := jR hcw;have hl0 : (0 : Int) < ((n + 1 : Nat) : Int) := by omega
  have hl2 : decide ((0 : Int) < ((n + 1 : Nat) : Int)) = true := decide_eq_true hl0;have e1 : IntKind.i64.wrap (((n + 1 : Nat) : Int) - 1) = (n : Int) := by rw [show (((n + 1 : Nat) : Int) - 1) = (n : Int) by omega]; exact IntWalk.i64_in _ qD
  have e2 : wrap64 (n : Int) = (n : Int) := IntWalk.wrap64_in _ qD;have i0 : (0 : Int) ≤ (n : Int) := Int.natCast_nonneg _;have i1 : (n : Int) < ((n + 1 : Nat) : Int) := by omega
  rw [hnl];clear hL hx hx0 hnl hn c0;go_enter Tryz.func195, Tryz.ntmps195;go_wp2_with fail;go_ret;rw [HR.out];exact ⟨rfl, by ((with_reducible repeat' first | exact zE _ _ | assumption | refine zG ?_ ?_ _ | refine zH ?_ | refine qR ?_ | refine zF ?_ ?_ _) <;> go_size)⟩
def LB {w0 : World} {S : Nat → Prop} {s : St} (kind : Int) (w : World) (Z : Nat) (pre : List (SelX w0 S s)) (W : World) : Prop :=
 W.heap[w.heap.size + 2]? = some (.cells #[.bool (pre.all fun x => kJ kind x.l)] 4) ∧ W.heap[w.heap.size + 3]? = some (.cells #[.bool (pre.any fun x => kJ kind x.l)] 4) ∧ W.heap[w.heap.size + 1]? = some (.cells #[.int .i64 kind] 3) ∧ Below w.heap.size w W ∧ Z ≤ W.heap.size
theorem zNy {w0 : World} {S : Nat → Prop} {s : St} {kind : Int} {w : World} {Z B : Nat} (hB : w.heap.size ≤ B) : OwnFrom B (LB (w0 := w0) (S := S) (s := s) kind w Z) :=
 OwnFrom.and (fun pre X _ _ hs hg hr => xP (β := Unit) B _ _ _ () X _ _ hs hg hr) (OwnFrom.and (fun pre X _ _ hs hg hr => xP (β := Unit) B _ _ _ () X _ _ hs hg hr) (OwnFrom.and (xP _ _ _ _) (OwnFrom.and (ownFrom_below (zC _) hB) (uS _ _))))
theorem zHV (w : World) (v : Value) (s : St) (k : Int) : ∃ W1, (((w.alloc (.cells #[v, .int .i64 s.anc.line, .int .i64 s.anc.col, .int .i64 s.foc.line, .int .i64 s.foc.col, .int .i64 s.on, .int .i64 s.off] 26)).alloc (.cells #[.int .i64 k] 3)).alloc (.cells #[.bool false] 4)).alloc (.cells #[.bool false] 4) = W1 ∧ Below w.heap.size w W1 ∧ w.heap.size + 4 = W1.heap.size ∧
  W1.heap[w.heap.size]? = some (.cells #[v, .int .i64 s.anc.line, .int .i64 s.anc.col, .int .i64 s.foc.line, .int .i64 s.foc.col, .int .i64 s.on, .int .i64 s.off] 26) ∧ W1.heap[w.heap.size + 1]? = some (.cells #[.int .i64 k] 3) ∧ W1.heap[w.heap.size + 2]? = some (.cells #[.bool false] 4) ∧ W1.heap[w.heap.size + 3]? = some (.cells #[.bool false] 4) :=
 ⟨_, rfl, ((((zE _ _).alloc (zC _) _).alloc qF _).alloc jB _).alloc jB _, by simp, zZ _ _ (zZ _ _ (zZ _ _ (qG _ _ rfl))), zZ _ _ (zZ _ _ (qG _ _ qF)), zZ _ _ (qG _ _ qF), qG _ _ qF⟩
set_option maxRecDepth 200000 in
theorem zES (v : Value) (s : St) (kind : Int) (w : World) (S : Nat → Prop) (h : jD w S v s.lines) (he : EnvT w) (hs : Small s.lines) :
  Calls zV 111 #[stV v s, .int .i64 kind] w fun e w' => e = .returned (.tuple #[.bool (xT kind s).1, .bool (xT kind s).2]) ∧ Below w.heap.size w w' := by
 obtain ⟨W1, hW1, hB, hz, k0, k1, k2, k3⟩ := zHV w v s kind;have HB : Hid (∀ W, Below W1.heap.size W1 W → W.heap[w.heap.size]? = some (.cells #[v, .int .i64 s.anc.line, .int .i64 s.anc.col, .int .i64 s.foc.line, .int .i64 s.foc.col, .int .i64 s.on, .int .i64 s.off] 26) ∧ W.heap[w.heap.size + 1]? = some (.cells #[.int .i64 kind] 3) ∧ W.heap[w.heap.size + 2]? = some (.cells #[.bool false] 4) ∧ W.heap[w.heap.size + 3]? = some (.cells #[.bool false] 4)) := zA fun W hW => ⟨zY hW k0, zY hW k1, zY hW k2, zY hW k3⟩;have hs1 := hB.size;have H1 := zA hB;have hw0 : Below W1.heap.size W1 W1 := zE _ _;have HM := zA (vV v s W1 S (h.below (qB _) hB) (he.below hB) hs);have HVF := zA (zB h hs);have HR := zA (show xT kind s = if mayS s = true then (vC (kJ kind) s s.lines.length, yS (kJ kind) s s.lines.length) else (false, false) from rfl);obtain ⟨p0, f0⟩ := blk k0;obtain ⟨p1, f1⟩ := blk k1;obtain ⟨p2, f2⟩ := blk k2;obtain ⟨p3, f3⟩ := blk k3;obtain ⟨va, vc, rfl⟩ := h.slice;have hm0 : Hid (mayS s = mayS s) := zA rfl;obtain ⟨m, hm⟩ : ∃ m, mayS s = m := ⟨_, rfl⟩;rw [hm] at HM HR;cases m
 ·have HR : Hid (xT kind s = (false, false)) := zA (HR.out.trans (if_neg qF))
  clear h he hs k0 k1 k2 k3 hB hm HVF;go_enter Tryz.func111, Tryz.ntmps111;go_wp2_with (go_at_call 23; refine HM.out.mono ?_; rintro e w2 ⟨rfl, hb2⟩; obtain ⟨q2, g2⟩ := blk (HB.out _ hb2).2.2.1; obtain ⟨q3, g3⟩ := blk (HB.out _ hb2).2.2.2; have HB2 := zA hb2);refine zM (zFD rfl _ _ ⟨w.heap.size + 1 + 1, 0, none⟩ ⟨w.heap.size + 1 + 1 + 1, 0, none⟩ false false rfl rfl ((kL (by show ¬ w.heap.size + 1 + 1 + 1 = w.heap.size + 1 + 1; omega)).trans (yV (q2 0))) (yV ((kL zEs).trans (q3 0)))) rfl ?_;rw [HR.out];have hfin := H1.out.trans (HB2.out.mono hs1);exact ⟨rfl, by ((with_reducible repeat' first | exact zE _ _ | assumption | refine zG ?_ ?_ _ | refine zH ?_ | refine qR ?_ | refine zF ?_ ?_ _) <;> go_size)⟩
 rw [if_pos rfl] at HR;obtain ⟨i, j, hi, hj, hij, hjl⟩ := zCx hm;have HSI := zA (zB hi hj)
 have HR : Hid (xT kind s = ((List.range' i (j + 1 - i)).all fun k => kJ kind (kE s k), (List.range' i (j + 1 - i)).any fun k => kJ kind (kE s k))) := zA (by
  rw [HR.out, ← zGA hi hj hij hjl (kJ kind), ← zGB hi hj hij hjl (kJ kind)])
 clear h he hs k0 k1 k2 k3 hB hm hi hj;refine (callsIn_wide (n := 6)).1 ?_;refine callsIn_of_wp_marks Tryz.func111 rfl trivial ?_ rfl;simp only [Tryz.ntmps111, List.size_toArray, List.length_cons, List.length_nil, Nat.reduceAdd, Nat.reduceSub, Array.replicate_succ, Array.replicate_zero, List.push_toArray, List.append_toArray, List.nil_append, List.cons_append];have hwf : ∀ f, Fence.wide.fn f := fun _ => trivial;have hwd : Fence.wide.depth = none := rfl
 gi_wp2_with (first
  | (gi_at_call 23; refine (callsIn_wide.2 HM.out).mono ?_; rintro e w2 ⟨rfl, hb2⟩; obtain ⟨q0, g0⟩ := blk (HB.out _ hb2).1; obtain ⟨q2, g2⟩ := blk (HB.out _ hb2).2.2.1; obtain ⟨q3, g3⟩ := blk (HB.out _ hb2).2.2.2)
  | (gi_at_call 113; refine (callsIn_wide.2 (zDg _ _ _ s _)).mono ?_; rintro e w5 ⟨rfl, rfl⟩))
 obtain ⟨w6, hw6⟩ : ∃ w6, (w2.setCell ⟨w.heap.size + 1 + 1, 0, none⟩ (.bool true)).alloc (.cells #[.slice va s.lines.length vc, .int .i64 s.anc.line, .int .i64 s.anc.col, .int .i64 s.foc.line, .int .i64 s.foc.col, .int .i64 s.on, .int .i64 s.off] 26) = w6 := ⟨_, rfl⟩;rw [hw6];have hs2 := hb2.size;have hz6 : w6.heap.size = w2.heap.size + 1 := by rw [← hw6]; simp
 have m1 : w6.heap[w.heap.size + 2]? = some (.cells #[.bool true] 4) := hw6 ▸ zZ _ _ (by rw [qT, if_pos rfl, (HB.out _ hb2).2.2.1]; rfl);have m2 : w6.heap[w.heap.size + 3]? = some (.cells #[.bool false] 4) := hw6 ▸ zZ _ _ (by rw [qT, if_neg (by show ¬ w.heap.size + 1 + 1 = w.heap.size + 3; omega), (HB.out _ hb2).2.2.2]);have m3 : w6.heap[w.heap.size + 1]? = some (.cells #[.int .i64 kind] 3) := hw6 ▸ zZ _ _ (by rw [qT, if_neg zBw, (HB.out _ hb2).2.1]);have m4 : w6.heap[w2.heap.size]? = some (.cells #[.slice va s.lines.length vc, .int .i64 s.anc.line, .int .i64 s.anc.col, .int .i64 s.foc.line, .int .i64 s.foc.col, .int .i64 s.on, .int .i64 s.off] 26) := hw6 ▸ qG _ _ qF;have hbw : Below w.heap.size w w6 := hw6 ▸ ((H1.out.trans (hb2.mono hs1)).setCell xR _).alloc jB _;have hLB : LB (w0 := w) (S := S) (s := s) kind w w6.heap.size [] w6 := ⟨m1, m2, m3, hbw, zC _⟩;have N2 := zA m4;have HBW := zA hbw;clear hw6 q0 g0 q2 g2 q3 g3 p0 f0 p1 f1 p2 f2 p3 f3 hW1 m1 m2 m3 m4
 refine zBE rfl qD (gf := 196) (lb := #[.pointer (some ⟨w2.heap.size, 0, none⟩)]) rfl trivial (enters_of Tryz.func196 zT rfl)
  (encs := zAu (w0 := w) (S := S) (s := s)) (n₀ := w.heap.size) (base := w2.heap.size) (S := fun ys => ys.map (·.i) = List.range' i (j + 1 - i)) (Sp := fun pre => pre.map (·.i) = List.range' i pre.length ∧ pre.length ≤ j + 1 - i) (N := 200000) (w0 := w6) ?seq qD (zE _ _) (fun _ => rfl)
  (LB kind w w6.heap.size) (fun _ _ _ => False) (zNy qD) (fun _ _ _ _ _ hs _ _ => hs) hLB (fun _ _ h => h.2.2.2.2)
  (fun x => #[.int .i64 x.l.quote, .slice x.la x.l.lists.length x.lc, .int .i64 x.l.kind, .slice x.ca x.l.cells.length x.cc]) 60 ?act ?assign ?body ?done ?stop
 case seq =>
  intro l J Jx W hW hJ _ hY h0;have hzW := hW.size;exact zEf 5 l w2.heap.size w2.heap.size (.slice va s.lines.length vc) s i j S w W J Jx HVF.out.1 (HBW.out.trans (hW.mono HBW.out.size)) (zC _) qD (zY hW N2.out) HSI.out.1 HSI.out.2 hij hjl HVF.out.2.2.1 hJ hY h0
 case assign =>
  intro l pre x W K Bx hBx hI hK;unfold zAu linV;rw [zEd];simp only [qI, qX, qY]
  repeat (first | go_values | gi_guarded | gi_step | gi_upon)
  rw [← hBx];exact hK
 case body =>
  intro l pre x Bx W hI hBx hbx hlt;obtain ⟨t0, t1, t2, hb, hz⟩ := hI;obtain ⟨k, ln, la, lc, ca, cc, row, hL, hC⟩ := x;obtain ⟨ra, hra⟩ : ∃ r, (pre.all fun x => kJ kind x.l) = r := ⟨_, rfl⟩;obtain ⟨rs, hrs⟩ : ∃ r, (pre.any fun x => kJ kind x.l) = r := ⟨_, rfl⟩;have hAll : ((pre ++ [(⟨k, ln, la, lc, ca, cc, row, hL, hC⟩ : SelX w S s)]).all fun x => kJ kind x.l) = (ra && kJ kind ln) := by simp [← hra]
  have hAny : ((pre ++ [(⟨k, ln, la, lc, ca, cc, row, hL, hC⟩ : SelX w S s)]).any fun x => kJ kind x.l) = (rs || kJ kind ln) := by simp [← hrs]
  rw [hra] at t0;rw [hrs] at t1;have HC := zA (zHP kind ln la ca lc cc W w S hL hb);obtain ⟨r, hr⟩ : ∃ r, kJ kind ln = r := ⟨_, rfl⟩;rw [hr] at HC hAll hAny;have HAA := zA (zB hAll hAny);obtain ⟨s0, s0f⟩ := blk t0;obtain ⟨s1, s1f⟩ := blk t1;obtain ⟨s2, s2f⟩ := blk t2;obtain ⟨sx, sxf⟩ := blk hbx;have HIN := zA (zB t0 (zB t1 (zB t2 (zB hb hz))));have hzW := hb.size;unfold linV at HC;clear t0 t1 t2 hb hAll hAny hbx hra hrs hr;simp only at s0 sx ⊢;cases ra <;> cases rs
  all_goals gi_wp2_with (gi_at_call 195; refine (callsIn_wide.2 HC.out).mono ?_; rintro e w7 ⟨rfl, hb7⟩; have HB7 := zA hb7; obtain ⟨y0, y0f⟩ := blk (zY hb7 HIN.out.1); obtain ⟨y1, y1f⟩ := blk (zY hb7 HIN.out.2.1); clear s0 s0f s1 s1f s2 s2f sx sxf)
  all_goals
   have hb7 := HB7.out;have hz7 := hb7.size;refine ⟨((uB hb7).trans ((KeepsOthers.setCell _ _ _).trans (KeepsOthers.setCell _ _ _))).from _, (Kp.of_below qD hb7).t ((Kp.setCell _ qD qD _).t (Kp.setCell _ qD qD _)), ?_, ?_, ?_, ((zX HIN.out.2.2.2.1 hb7).setCell xR _).setCell zEu _, by have := HIN.out.2.2.2.2; simp; omega⟩
   ·rw [HAA.out.1, qT, if_neg (by show ¬ w.heap.size + 1 + 1 + 1 = w.heap.size + 2; omega), qT, if_pos rfl, zY hb7 HIN.out.1]
    simp [jA]
   ·rw [HAA.out.2, qT, if_pos rfl, qT, if_neg zEs]
    have := zY hb7 HIN.out.2.1;simp [jA, this]
   ·rw [qT, if_neg (by show ¬ w.heap.size + 1 + 1 + 1 = w.heap.size + 1; omega), qT, if_neg zBw]
    exact zY hb7 HIN.out.2.2.1
 case done =>
  rintro D ys W hD hys ⟨t0, t1, t2, hb, hz⟩ hK;have hl : ∀ x : SelX w S s, kE s x.i = x.l := fun x => by unfold kE; rw [List.getD_eq_getElem?_getD, x.row]; rfl
  have hAll : (ys.all fun x => kJ kind x.l) = ((List.range' i (j + 1 - i)).all fun k => kJ kind (kE s k)) := by
   rw [← hys, List.all_map];refine congrArg (List.all ys) (funext fun x => ?_)
   show _ = kJ kind (kE s x.i)
   rw [hl]
  have hAny : (ys.any fun x => kJ kind x.l) = ((List.range' i (j + 1 - i)).any fun k => kJ kind (kE s k)) := by
   rw [← hys, List.any_map];refine congrArg (List.any ys) (funext fun x => ?_)
   show _ = kJ kind (kE s x.i)
   rw [hl]
  rw [hAll] at t0;rw [hAny] at t1;obtain ⟨ra, hra⟩ : ∃ r, ((List.range' i (j + 1 - i)).all fun k => kJ kind (kE s k)) = r := ⟨_, rfl⟩;obtain ⟨rs, hrs⟩ : ∃ r, ((List.range' i (j + 1 - i)).any fun k => kJ kind (kE s k)) = r := ⟨_, rfl⟩;rw [hra] at t0 HR;rw [hrs] at t1 HR;have HB9 := zA hb;have HK9 := zA hK;have HT := zA (zB t0 t1);obtain ⟨s0, s0f⟩ := blk t0;obtain ⟨s1, s1f⟩ := blk t1;clear t0 t1 t2 hb hK hAll hAny hra hrs
  gi_wp2_with fail
  gi_region
  gi_wp2_with fail
  have hBE : Below w.heap.size w (((W.setCell ⟨w.heap.size + 1 + 1, 0, none⟩ (.bool ra)).setCell ⟨w.heap.size + 1 + 1 + 1, 0, none⟩ (.bool rs)).drew) := ((HB9.out.setCell xR _).setCell zEu _).drew
  have hK2 : (((W.setCell ⟨w.heap.size + 1 + 1, 0, none⟩ (.bool ra)).setCell ⟨w.heap.size + 1 + 1 + 1, 0, none⟩ (.bool rs)).drew).heap[D]? = some (.deferred (some [])) := by
   rw [zDI, qT, if_neg (by show ¬ w.heap.size + 1 + 1 + 1 = D; omega), qT, if_neg (by show ¬ w.heap.size + 1 + 1 = D; omega)];exact HK9.out
  have r1 : ((W.setCell ⟨w.heap.size + 1 + 1, 0, none⟩ (.bool ra)).setCell ⟨w.heap.size + 1 + 1 + 1, 0, none⟩ (.bool rs)).cell? ⟨w.heap.size + 1 + 1, 0, none⟩ = some (.bool ra) := (kL (by show ¬ w.heap.size + 1 + 1 + 1 = w.heap.size + 1 + 1; omega)).trans (yV (s0 0));have r2 : ((W.setCell ⟨w.heap.size + 1 + 1, 0, none⟩ (.bool ra)).setCell ⟨w.heap.size + 1 + 1 + 1, 0, none⟩ (.bool rs)).cell? ⟨w.heap.size + 1 + 1 + 1, 0, none⟩ = some (.bool rs) := yV ((kL zEs).trans (s1 0))
  generalize ((W.setCell ⟨w.heap.size + 1 + 1, 0, none⟩ (.bool ra)).setCell ⟨w.heap.size + 1 + 1 + 1, 0, none⟩ (.bool rs)) = Y at *
  refine ⟨by simp, .inl ⟨_, _, rfl, run_takeDeferred hK2, ?_⟩⟩;refine ⟨_, zFD rfl _ _ ⟨w.heap.size + 1 + 1, 0, none⟩ ⟨w.heap.size + 1 + 1 + 1, 0, none⟩ ra rs rfl rfl ((World.cell?_of_block (World.putObj_heap_other (by show w.heap.size + 1 + 1 ≠ D; omega))).trans r1) ((World.cell?_of_block (World.putObj_heap_other (by show w.heap.size + 1 + 1 + 1 ≠ D; omega))).trans r2), ?_⟩;rw [HR.out];exact ⟨rfl, hBE.trans (belowK_b (w := w) (zC _) _ D _ _ qD hK2 rfl rfl)⟩
 case stop =>
  rintro D c pre W _ _ h _;exact h.elim
set_option maxRecDepth 100000 in
theorem zJJ (v : Value) (s : St) (k : Int) (w : World) (S : Nat → Prop) (h : jD w S v s.lines) (he : EnvT w) (hs : Small s.lines) (hf : Fits s.lines) :
  Calls zV 169 #[stV v s, .int .i64 k] w (StSaid (uI k s) w) := by
 obtain ⟨W1, hW1, hB, hz, k0, k1, k2⟩ := zFz w v s k;have HB : Hid (∀ W, Below W1.heap.size W1 W → W.heap[w.heap.size]? = some (.cells #[v, .int .i64 s.anc.line, .int .i64 s.anc.col, .int .i64 s.foc.line, .int .i64 s.foc.col, .int .i64 s.on, .int .i64 s.off] 26) ∧ W.heap[w.heap.size + 2]? = some (.cells #[.slice none 0 0, .int .i64 0, .int .i64 0, .int .i64 0, .int .i64 0, .int .i64 0, .int .i64 0] 26) ∧ W.heap[w.heap.size + 1]? = some (.cells #[.int .i64 k] 3)) := zA fun W hW => ⟨zY hW k0, zY hW k2, zY hW k1⟩;have hs1 := hB.size;have H1 := zA hB;have HLd := zA (zES v s k W1 S (h.below (qB _) hB) (he.below hB) hs)
 have HO : Hid (∀ W, Below W1.heap.size W1 W → Calls zV 166 #[stV v s, .func (.func 147) #[] #[]] W (StSaid (kI kM s) W)) := zA fun W hW => zBH v s 147 #[] kM W S ((h.below (qB _) hB).below (qB _) hW) ((he.below hB).below hW) hs hf (enters_of Tryz.func147 zT rfl)
  (fun W' l la ca lc cc hW' hl hm hL hC => zDf l la ca lc cc W' W S hL hC hW' (((he.below hB).below hW).below hW') (hf.2 l hl) (hs.2.2 l hl) hm)
 have HC : Hid (k = 0 ∨ k = 1 → ∀ W, Below W1.heap.size W1 W → Calls zV 166 #[stV v s, .func (.func 257) #[] #[.pointer (some ⟨w.heap.size + 1, 0, none⟩)]] W (StSaid (kI (xW k) s) W)) := zA fun hk W hW => zBH v s 257 #[.pointer (some ⟨w.heap.size + 1, 0, none⟩)] (xW k) W S ((h.below (qB _) hB).below (qB _) hW) ((he.below hB).below hW) hs hf (enters_of Tryz.func257 zT rfl)
  (fun W' l la ca lc cc hW' hl hm hL hC => zIR (w.heap.size + 1) k l la ca lc cc W' W S hk (zY (hW.trans (hW'.mono hW.size)) k1) hL hC hW' (((he.below hB).below hW).below hW') (hf.2 l hl) (hs.2.2 l hl) hm)
 have HR := zA (show uI k s = if k ≠ 0 ∧ k ≠ 1 then (noS, 1) else if (xT k s).1 = true then kI kM s else kI (xW k) s from rfl);obtain ⟨p0, f0⟩ := blk k0;obtain ⟨p1, f1⟩ := blk k1;obtain ⟨p2, f2⟩ := blk k2;obtain ⟨va, vc, rfl⟩ := h.slice;clear h he hs hf hB k0 k1 k2;obtain ⟨al, hal⟩ : ∃ x, (xT k s).1 = x := ⟨_, rfl⟩;obtain ⟨so, hso⟩ : ∃ x, (xT k s).2 = x := ⟨_, rfl⟩;rw [hal] at HLd HR;rw [hso] at HLd;clear hal hso;rcases (show (k ≠ 0 ∧ k ≠ 1) ∨ (k = 0 ∨ k = 1) by omega) with ⟨hk0, hk1⟩ | hk
 ·have HR : Hid (uI k s = (noS, 1)) := zA (HR.out.trans (if_pos ⟨hk0, hk1⟩))
  have d0 : (k != 0) = true := by simp [hk0]
  have d1 : (k != 1) = true := by simp [hk1]
  go_enter Tryz.func169, Tryz.ntmps169;go_wp2_with (go_at_call 111; refine HLd.out.mono ?_; rintro e w2 ⟨rfl, hb2⟩; obtain ⟨q0, g0⟩ := blk (HB.out _ hb2).1; obtain ⟨q1, g1⟩ := blk (HB.out _ hb2).2.1; obtain ⟨q2, g2⟩ := blk (HB.out _ hb2).2.2; have HB2 := zA hb2);refine zM (jS rfl _ _ (w.heap.size + 2) (.slice none 0 0) (.int .i64 0) (.int .i64 0) (.int .i64 0) (.int .i64 0) (.int .i64 0) (.int .i64 0) (.int .i64 1) rfl rfl (by simp [qT, jA, (HB.out _ HB2.out).2.1])) rfl ?_;unfold StSaid;rw [HR.out];have hfin := H1.out.trans (HB2.out.mono hs1);exact ⟨_, rfl, SliceR.nil _ _ _ _ _ _, by ((with_reducible repeat' first | exact zE _ _ | assumption | refine zG ?_ ?_ _ | refine zH ?_ | refine qR ?_ | refine zF ?_ ?_ _) <;> go_size)⟩
 ·have HR : Hid (uI k s = if al = true then kI kM s else kI (xW k) s) := zA (HR.out.trans (if_neg (fun h => by omega)))
  have HC := zA (HC.out hk);have d0 : (k != 0) = false ∨ ((k != 0) = true ∧ (k != 1) = false) := by rcases hk with rfl | rfl <;> simp
  clear hk;have HR1 : Hid (al = true → uI k s = kI kM s) := zA fun e => by rw [HR.out, e]; rfl
  obtain ⟨X1, hX1⟩ : ∃ X, kI kM s = X := ⟨_, rfl⟩;rw [hX1] at HO HR1;have HR2 : Hid (al = false → uI k s = kI (xW k) s) := zA fun e => by rw [HR.out, e]; rfl
  obtain ⟨X2, hX2⟩ : ∃ X, kI (xW k) s = X := ⟨_, rfl⟩;rw [hX2] at HC HR2;clear HR hX1 hX2;cases al
  ·have HR := zA (HR2.out rfl)
   rw [HR.out];rcases d0 with d0 | ⟨d0, d1⟩
   all_goals
    go_enter Tryz.func169, Tryz.ntmps169
    go_wp2_with (first
     | (go_at_call 111; refine HLd.out.mono ?_; rintro e w2 ⟨rfl, hb2⟩; obtain ⟨q0, g0⟩ := blk (HB.out _ hb2).1; obtain ⟨q1, g1⟩ := blk (HB.out _ hb2).2.1; obtain ⟨q2, g2⟩ := blk (HB.out _ hb2).2.2)
     | (go_at_call 166; refine (HC.out _ hb2).mono ?_; rintro e w3 ⟨v3, rfl, hv3, hst3⟩; have hb3 := zX hb2 hst3; obtain ⟨a3, c3, rfl⟩ := hv3.slice; obtain ⟨t0, u0⟩ := blk (HB.out _ hb3).2.1; have HV := zA hv3; clear hv3))
    refine zM (jS rfl _ _ (w.heap.size + 2) (.slice a3 X2.1.lines.length c3) (.int .i64 X2.1.anc.line) (.int .i64 X2.1.anc.col) (.int .i64 X2.1.foc.line) (.int .i64 X2.1.foc.col) (.int .i64 X2.1.on) (.int .i64 X2.1.off) (.int .i64 X2.2) rfl rfl (by simp [qT, jA, (HB.out _ hb3).2.1])) rfl ?_;have hfin := H1.out.trans (hb3.mono hs1);have hv3 := HV.out;have hs2 := hb2.size;exact ⟨_, rfl, (qH (qB _) hv3 jN (fun b h _ => jL)), by ((with_reducible repeat' first | exact zE _ _ | assumption | refine zG ?_ ?_ _ | refine zH ?_ | refine qR ?_ | refine zF ?_ ?_ _) <;> go_size)⟩
  ·have HR := zA (HR1.out rfl)
   rw [HR.out];rcases d0 with d0 | ⟨d0, d1⟩
   all_goals
    go_enter Tryz.func169, Tryz.ntmps169
    go_wp2_with (first
     | (go_at_call 111; refine HLd.out.mono ?_; rintro e w2 ⟨rfl, hb2⟩; obtain ⟨q0, g0⟩ := blk (HB.out _ hb2).1; obtain ⟨q1, g1⟩ := blk (HB.out _ hb2).2.1; obtain ⟨q2, g2⟩ := blk (HB.out _ hb2).2.2)
     | (go_at_call 166; refine (HO.out _ hb2).mono ?_; rintro e w3 ⟨v3, rfl, hv3, hst3⟩; have hb3 := zX hb2 hst3; obtain ⟨a3, c3, rfl⟩ := hv3.slice; obtain ⟨t0, u0⟩ := blk (HB.out _ hb3).2.1; have HV := zA hv3; clear hv3))
    refine zM (jS rfl _ _ (w.heap.size + 2) (.slice a3 X1.1.lines.length c3) (.int .i64 X1.1.anc.line) (.int .i64 X1.1.anc.col) (.int .i64 X1.1.foc.line) (.int .i64 X1.1.foc.col) (.int .i64 X1.1.on) (.int .i64 X1.1.off) (.int .i64 X1.2) rfl rfl (by simp [qT, jA, (HB.out _ hb3).2.1])) rfl ?_;have hfin := H1.out.trans (hb3.mono hs1);have hv3 := HV.out;have hs2 := hb2.size;exact ⟨_, rfl, (qH (qB _) hv3 jN (fun b h _ => jL)), by ((with_reducible repeat' first | exact zE _ _ | assumption | refine zG ?_ ?_ _ | refine zH ?_ | refine qR ?_ | refine zF ?_ ?_ _) <;> go_size)⟩
theorem blk1 {w : World} {B : Nat} {cs : Array Value} {t : TypeId} (h : w.heap[B]? = some (.cells cs t)) : (∀ X k, (w.alloc X).cell? ⟨B, k, none⟩ = cs[k]?) ∧ (∀ X k, (w.alloc X).frozen? ⟨B, k, none⟩ = false) :=
 ⟨fun X _ => jT (zZ _ X h), fun X _ => xY (zZ _ X h)⟩
def DocPB (n : Nat) (x : Doc × Ps × Int) (w : World) (e : Ending) (w' : World) : Prop := ∃ v', e = .returned (.tuple #[v', posV x.2.1, .int .i64 x.2.2]) ∧ DocR true w' (fun b => n ≤ b) v' x.1 ∧ Below n w w'
theorem DocPSaid.base {x : Doc × Ps × Int} {w W : World} {e : Ending} {w' : World} {n : Nat} (h : DocPSaid x W e w') (hb : Below n w W) (hn : n ≤ W.heap.size) : DocPB n x w e w' := by
 obtain ⟨v', h1, h2, h3⟩ := h;exact ⟨v', h1, qH (qB true) h2 (qN _ _) (fun b h _ => Nat.le_trans hn h), hb.trans (h3.mono hn)⟩
def zNl (s : St) (g : Nat) (lb : Array Value) (R : Doc × Ps × Int) (w : World) : Prop :=
 ∀ (n : Nat) (W : World) (a : Option Addr) (c : Nat), Below w.heap.size w W → w.heap.size ≤ n → n ≤ W.heap.size → DocR true W (fun b => n ≤ b) (.slice a (outS s).length c) (outS s) → Calls zV g (#[.slice a (outS s).length c, posV (qV s).1] ++ lb) W (DocPB n R W)
set_option maxRecDepth 100000 in
theorem zCu (v : Value) (s : St) (g : Nat) (lb : Array Value) (R : Doc × Ps × Int) (w : World) (S : Nat → Prop) (h : jD w S v s.lines) (he : EnvT w) (hs : Small s.lines) (hf : Fits s.lines)
  (eg : ∀ args w, (callFunc g args).run zV w = .ok (.enter g args) w) (hg : mayS s = true → zNl s g lb R w) :
  Calls zV 138 #[stV v s, .func (.func g) #[] lb] w (StSaid (keyS s R) w) := by
 obtain ⟨W1, hW1, hB, hz, k0, k1⟩ := xU w v s;have HB : Hid (∀ W, Below W1.heap.size W1 W → W.heap[w.heap.size]? = some (.cells #[v, .int .i64 s.anc.line, .int .i64 s.anc.col, .int .i64 s.foc.line, .int .i64 s.foc.col, .int .i64 s.on, .int .i64 s.off] 26) ∧ W.heap[w.heap.size + 1]? = some (.cells #[.slice none 0 0, .int .i64 0, .int .i64 0, .int .i64 0, .int .i64 0, .int .i64 0, .int .i64 0] 26)) := zA fun W hW => ⟨zY hW k0, zY hW k1⟩;have hs1 := hB.size;have H1 := zA hB;have hw0 : Below W1.heap.size W1 W1 := zE _ _;have HV : Hid (∀ W, Below W1.heap.size W1 W → jD W S v s.lines) := zA fun W hW => h.below (qB _) (hB.trans (hW.mono hs1));have HE : Hid (∀ W, Below W1.heap.size W1 W → EnvT W) := zA fun W hW => (he.below hB).below hW;have HM : Hid (∀ W, Below W1.heap.size W1 W → Calls zV 23 #[stV v s] W fun e w' => e = .returned (.bool (mayS s)) ∧ Below W.heap.size W w') := zA fun W hW => vV v s W S (HV.out W hW) (HE.out W hW) hs;have HR : Hid (keyS s R = if mayS s = true then endS R else (noS, 1)) := zA rfl;cases hm : mayS s
 ·rw [hm] at HM HR
  have HR : Hid (keyS s R = (noS, 1)) := zA (HR.out.trans (if_neg qF));obtain ⟨p0, f0⟩ := blk k0;obtain ⟨p1, f1⟩ := blk k1;obtain ⟨va, vc, rfl⟩ := h.slice;clear h he hs hf hg k0 k1 hB hm;go_enter Tryz.func138, Tryz.ntmps138;go_wp2_with ((go_at_call 23; refine (HM.out _ hw0).mono ?_; rintro e w2 ⟨rfl, hst2⟩; have hb2 := zX hw0 hst2; obtain ⟨q1, g1⟩ := blk (HB.out _ hb2).2));refine zM (jS rfl _ _ (w.heap.size + 1) (.slice none 0 0) (.int .i64 0) (.int .i64 0) (.int .i64 0) (.int .i64 0) (.int .i64 0) (.int .i64 0) (.int .i64 1) rfl rfl vO) rfl ?_;unfold StSaid;rw [HR.out];have hfin := H1.out.trans (hb2.mono hs1);exact ⟨_, rfl, SliceR.nil _ _ _ _ _ _, by ((with_reducible repeat' first | exact zE _ _ | assumption | refine zG ?_ ?_ _ | refine zH ?_ | refine qR ?_ | refine zF ?_ ?_ _) <;> go_size)⟩
 ·have HG : Hid (∀ (n : Nat) (W : World) (a : Option Addr) (c : Nat), Below W1.heap.size W1 W → W1.heap.size ≤ n → n ≤ W.heap.size → DocR true W (fun b => n ≤ b) (.slice a (outS s).length c) (outS s) → Calls zV g (#[.slice a (outS s).length c, posV (qV s).1] ++ lb) W (DocPB n R W)) :=
   zA fun n W a c hW h1 h2 h3 => hg hm n W a c (hB.trans (hW.mono hs1)) (Nat.le_trans hs1 h1) h2 h3
  have hd := (yX hm).2.2.2.1;rw [hm] at HM HR;rw [if_pos rfl] at HR;have HSp : Hid (∀ W, Below W1.heap.size W1 W → Calls zV 114 #[stV v s] W fun e w' => e = .returned (.tuple #[.agg #[.int .i64 (qV s).1.line, .int .i64 (qV s).1.col], .agg #[.int .i64 (qV s).2.line, .int .i64 (qV s).2.col]]) ∧ Below W.heap.size W w') := zA fun W hW => zAm v s W
  have HD : Hid (∀ W, Below W1.heap.size W1 W → Calls zV 152 #[v, posV (qV s).1, posV (qV s).2] W (DocSaid (outS s, 0) W)) := zA fun W hW => by
   have := zDq v s.lines (qV s).1 (qV s).2 W S (HV.out W hW) (HE.out W hW) hs hf;rw [hd] at this;exact this
  obtain ⟨O, hO⟩ : ∃ O, outS s = O := ⟨_, rfl⟩;rw [hO] at HD HG;obtain ⟨A, B, hAB⟩ : ∃ A B, qV s = (A, B) := ⟨_, _, rfl⟩;rw [hAB] at HSp HG HD;simp only at HSp HG HD;obtain ⟨D, q, er, hD⟩ : ∃ D q er, R = (D, q, er) := ⟨_, _, _, rfl⟩;subst hD;have HP : Hid (∀ p : Ps, posV p = .agg #[.int .i64 p.line, .int .i64 p.col]) := zA fun _ => rfl;rw [HP.out] at HG;rw [HP.out, HP.out] at HD;have HCl := zA (fun (a : Option Addr) (n c : Nat) (p : Ps) (W : World) => zHR a n c p W);obtain ⟨p0, f0⟩ := blk k0;obtain ⟨p1, f1⟩ := blk k1;obtain ⟨va, vc, rfl⟩ := h.slice;clear h he hs hf hg k0 k1 hB hm hAB hd hO
  by_cases h0 : er = 0
  ·subst h0
   have HR := zA (HR.out.trans (show endS (D, q, (0 : Int)) = (zBi D q, 0) from if_pos rfl));go_enter Tryz.func138, Tryz.ntmps138
   go_wp2_with (first
    | (go_at_call 23; refine (HM.out _ hw0).mono ?_; rintro e w2 ⟨rfl, hst2⟩; have hb2 := zX hw0 hst2; obtain ⟨q0, g0⟩ := blk (HB.out _ hb2).1) | (go_at_call 114; refine (HSp.out _ hb2).mono ?_; rintro e w3 ⟨rfl, hst3⟩; have hb3 := zX hb2 hst3; obtain ⟨q1, g1⟩ := blk (HB.out _ hb3).1; have hz3 := hb3.size; have e3 : ¬ w3.heap.size = w.heap.size := qD; have r1 := on2 (HB.out _ hb3).1; have HX3 : Hid (∀ X Y, Below W1.heap.size W1 ((w3.alloc X).alloc Y)) := zA fun X Y => hb3.trans (zAf (zE _ _) X Y |>.mono hz3)) | (go_at_call 152; refine (HD.out _ (HX3.out _ _)).mono ?_; intro e w4 hsaid; obtain ⟨v4, rfl, hv4, hst4⟩ := hsaid; obtain ⟨a4, c4, rfl⟩ := hv4.slice; have hb4 := zX (HX3.out _ _) hst4; have HV4 := zA hv4; clear hv4; have hz4 := hst4.size; have m4 := zY hst4 (zZ _ _ (qG _ _ rfl)); obtain ⟨q4, g4⟩ := blk m4) | (go_at_fn g; refine (HG.out _ _ a4 c4 hb4 (HX3.out _ _).size hz4 HV4.out).mono ?_; intro e w5 hsaid; obtain ⟨v5, he5, hv5, hst5⟩ := hsaid; simp only [HP.out] at he5; subst he5; obtain ⟨a5, c5, rfl⟩ := hv5.slice; have hb5 := hb4.trans (hst5.mono (HX3.out _ _).size); have HV5 := zA hv5; clear hv5; obtain ⟨q5, g5⟩ := blk (HB.out _ hb5).2; have hz5 := hb5.size; obtain ⟨r5, s5⟩ := blk1 (HB.out _ hb5).2)
    | (go_at_call 223; refine (HCl.out _ _ _ q _).mono ?_; rintro e w6 ⟨rfl, hst6⟩; have hb56 : Below w5.heap.size w5 w6 := zX ((zE _ _).alloc (zC _) _) hst6; have hb6 := zX hb5 hb56; obtain ⟨q6, g6⟩ := blk (HB.out _ hb6).2))
   refine zM (jS rfl _ _ (w.heap.size + 1) (.slice a5 D.length c5) (.int .i64 q.line) (.int .i64 q.col) (.int .i64 q.line) (.int .i64 q.col) (.int .i64 0) (.int .i64 0) (.int .i64 0) rfl rfl uR) rfl ?_;unfold StSaid;rw [HR.out];have hfin := H1.out.trans (hb6.mono hs1);have hv5 := HV5.out.below hb56;exact ⟨_, rfl, (qH (qB _) hv5 jN (fun b h _ => jL)), by ((with_reducible repeat' first | exact zE _ _ | assumption | refine zG ?_ ?_ _ | refine zH ?_ | refine qR ?_ | refine zF ?_ ?_ _) <;> go_size)⟩
  ·have HR2 : Hid (keyS s (D, q, er) = (noS, er)) := zA (HR.out.trans (if_neg h0))
   have hne : (er != 0) = true := by simpa using h0
   have hne2 : (er == 0) = false := by simpa using h0
   clear h0 HR;go_enter Tryz.func138, Tryz.ntmps138
   go_wp2_with (first
    | (go_at_call 23; refine (HM.out _ hw0).mono ?_; rintro e w2 ⟨rfl, hst2⟩; have hb2 := zX hw0 hst2; obtain ⟨q0, g0⟩ := blk (HB.out _ hb2).1) | (go_at_call 114; refine (HSp.out _ hb2).mono ?_; rintro e w3 ⟨rfl, hst3⟩; have hb3 := zX hb2 hst3; obtain ⟨q1, g1⟩ := blk (HB.out _ hb3).1; have hz3 := hb3.size; have e3 : ¬ w3.heap.size = w.heap.size := qD; have r1 := on2 (HB.out _ hb3).1; have HX3 : Hid (∀ X Y, Below W1.heap.size W1 ((w3.alloc X).alloc Y)) := zA fun X Y => hb3.trans (zAf (zE _ _) X Y |>.mono hz3)) | (go_at_call 152; refine (HD.out _ (HX3.out _ _)).mono ?_; intro e w4 hsaid; obtain ⟨v4, rfl, hv4, hst4⟩ := hsaid; obtain ⟨a4, c4, rfl⟩ := hv4.slice; have hb4 := zX (HX3.out _ _) hst4; have HV4 := zA hv4; clear hv4; have hz4 := hst4.size; have m4 := zY hst4 (zZ _ _ (qG _ _ rfl)); obtain ⟨q4, g4⟩ := blk m4) | (go_at_fn g; refine (HG.out _ _ a4 c4 hb4 (HX3.out _ _).size hz4 HV4.out).mono ?_; intro e w5 hsaid; obtain ⟨v5, he5, hv5, hst5⟩ := hsaid; simp only [HP.out] at he5; subst he5; obtain ⟨a5, c5, rfl⟩ := hv5.slice; have hb5 := hb4.trans (hst5.mono (HX3.out _ _).size); have HV5 := zA hv5; clear hv5; obtain ⟨q5, g5⟩ := blk (HB.out _ hb5).2; have hz5 := hb5.size; obtain ⟨r5, s5⟩ := blk1 (HB.out _ hb5).2))
   refine zM (jS rfl _ _ (w.heap.size + 1) (.slice none 0 0) (.int .i64 0) (.int .i64 0) (.int .i64 0) (.int .i64 0) (.int .i64 0) (.int .i64 0) (.int .i64 er) rfl rfl (by simp [qT, jA, zZ _ _ (HB.out _ hb5).2])) rfl ?_;unfold StSaid;rw [HR2.out];have hfin := H1.out.trans (hb5.mono hs1);exact ⟨_, rfl, SliceR.nil _ _ _ _ _ _, by ((with_reducible repeat' first | exact zE _ _ | assumption | refine zG ?_ ?_ _ | refine zH ?_ | refine qR ?_ | refine zF ?_ ?_ _) <;> go_size)⟩
theorem DocPB.err {n : Nat} {x : Doc × Ps × Int} {w w' : World} {q : Ps} {e : Int} (hx : x = ([], q, e)) (hb : Below w.heap.size w w') (hn : n ≤ w.heap.size) : DocPB n x w (.returned (.tuple #[.slice none 0 0, .agg #[.int .i64 q.line, .int .i64 q.col], .int .i64 e])) w' := by
 subst hx;exact ⟨_, rfl, SliceR.nil _ _ _ _ _ _, hb.mono hn⟩
theorem DocPB.same {n : Nat} {x : Doc × Ps × Int} {w w' : World} {v : Value} {O : Doc} {q : Ps} (hx : x = (O, q, 0)) (hO : DocR true w (fun b => n ≤ b) v O) (hb : Below w.heap.size w w') (hn : n ≤ w.heap.size) : DocPB n x w (.returned (.tuple #[v, .agg #[.int .i64 q.line, .int .i64 q.col], .int .i64 0])) w' := by
 subst hx;exact ⟨_, rfl, hO.below hb, hb.mono hn⟩
set_option maxRecDepth 100000 in
theorem zKq (Bs : Nat) (v : Value) (s : St) (n : Nat) (a : Option Addr) (c : Nat) (w : World) (hst : w.heap[Bs]? = some (.cells #[v, .int .i64 s.anc.line, .int .i64 s.anc.col, .int .i64 s.foc.line, .int .i64 s.foc.col, .int .i64 s.on, .int .i64 s.off] 26)) (h : DocR true w (fun b => n ≤ b) (.slice a (outS s).length c) (outS s)) (hn : n ≤ w.heap.size) (he : EnvT w) (hs : Small (outS s)) (hf : Fits (outS s)) :
  Calls zV 153 #[.slice a (outS s).length c, posV (qV s).1, .pointer (some ⟨Bs, 0, none⟩)] w (DocPB n (zAw s) w) := by
 have HR : Hid (zAw s = if s.anc = s.foc then (if (kK (outS s) (qV s).1 1).2 = true then cutK (outS s) (qV s).1 (kK (outS s) (qV s).1 1).1 (qV s).1 else ([], (qV s).1, 7)) else (outS s, (qV s).1, 0)) := zA rfl;obtain ⟨O, hO⟩ : ∃ O, outS s = O := ⟨_, rfl⟩;obtain ⟨A, hA⟩ : ∃ A, (qV s).1 = A := ⟨_, rfl⟩;rw [hO] at h hs hf;rw [hO, hA] at HR ⊢;obtain ⟨W1, hW1, hB, hz, k0, k1⟩ := vX w (.int .i64 A.line) (.int .i64 A.col) (.int .i64 0) (.int .i64 0);have hs1 := hB.size;have kt := zY hB hst;have HB : Hid (∀ W, Below W1.heap.size W1 W → W.heap[w.heap.size]? = some (.cells #[.int .i64 A.line, .int .i64 A.col] 24) ∧ W.heap[w.heap.size + 1]? = some (.cells #[.int .i64 0, .int .i64 0] 24) ∧ W.heap[Bs]? = some (.cells #[v, .int .i64 s.anc.line, .int .i64 s.anc.col, .int .i64 s.foc.line, .int .i64 s.foc.col, .int .i64 s.on, .int .i64 s.off] 26)) := zA fun W hW => ⟨zY hW k0, zY hW k1, zY hW kt⟩;have hw0 : Below W1.heap.size W1 W1 := zE _ _;have HS : Hid (∀ W, Below W1.heap.size W1 W → Calls zV 151 #[.slice a O.length c, .agg #[.int .i64 A.line, .int .i64 A.col], .int .i64 1] W fun e w' => e = .returned (.tuple #[.agg #[.int .i64 (kK O A 1).1.line, .int .i64 (kK O A 1).1.col], .bool (kK O A 1).2]) ∧ Below W.heap.size W w') := zA fun W hW => zGD _ O A 1 W w (fun b => n ≤ b) h.read (hB.trans (hW.mono hs1)) hs.1 hs.2.1 qW;have HD : Hid (∀ p W, Below W1.heap.size W1 W → Calls zV 152 #[.slice a O.length c, .agg #[.int .i64 A.line, .int .i64 A.col], .agg #[.int .i64 p.line, .int .i64 p.col]] W (DocSaid (kR O A p) W)) := zA fun p W hW => zDq _ O A p W (fun b => n ≤ b) (h.below (hB.trans (hW.mono hs1))).read ((he.below hB).below hW) hs hf;have H := zA h;have H1 := zA hB;have HN := zA hn;have hg := zDZ;have hq := fun (w : World) => zDz s.anc s.foc w;have HP : Hid (∀ p : Ps, posV p = .agg #[.int .i64 p.line, .int .i64 p.col]) := zA fun _ => rfl;rw [HP.out];obtain ⟨q, t, hqt⟩ : ∃ q t, kK O A 1 = (q, t) := ⟨_, _, rfl⟩;rw [hqt] at HR HS;simp only at HR HS;have HD := zA (fun W hW => HD.out q W hW);obtain ⟨p0, f0⟩ := blk k0
 by_cases hc : s.anc = s.foc
 ·rw [if_pos hc] at HR
  rw [decide_eq_true hc] at hq;cases t
  ·rw [if_neg qW] at HR
   clear h hB hc k0 k1 kt hst hn hO hA hs hf he hqt HD;go_enter Tryz.func153, Tryz.ntmps153;go_wp2_with (go_at_call 151; refine (HS.out _ hw0).mono ?_; rintro e w2 ⟨rfl, hst2⟩; have hb2 := zX hw0 hst2; obtain ⟨c0, d0⟩ := blk1 (HB.out _ hb2).1; obtain ⟨c1, d1⟩ := blk1 (HB.out _ hb2).2.1; obtain ⟨c2, d2⟩ := blk1 (HB.out _ hb2).2.2; have hz2 := hb2.size; have n1 : ¬ w2.heap.size = w.heap.size + 1 := qD; have n2 : ¬ w.heap.size + 1 = w2.heap.size := qD);go_region;go_wp2_with fail;have hfin := H1.out.trans (hb2.mono hs1);refine zM (kT rfl _ _ (w.heap.size + 1) (.int .i64 A.line) (.int .i64 A.col) rfl (by rw [xS]; simp [qT, jA, zZ _ _ (HB.out _ hb2).2.1])) rfl ?_;exact DocPB.err HR.out zAR HN.out
  ·rw [if_pos rfl] at HR
   have HX : Hid (cutK O A q A = ((kR O A q).1, A, (kR O A q).2)) := zA rfl;obtain ⟨D, er, hD⟩ : ∃ D er, kR O A q = (D, er) := ⟨_, _, rfl⟩;rw [hD] at HX HD;clear h hB hc k0 k1 kt hst hn hO hA hs hf he hqt hD;go_enter Tryz.func153, Tryz.ntmps153
   go_wp2_with (first
    | (go_at_call 151; refine (HS.out _ hw0).mono ?_; rintro e w2 ⟨rfl, hst2⟩; have hb2 := zX hw0 hst2; obtain ⟨c0, d0⟩ := blk1 (HB.out _ hb2).1; obtain ⟨c1, d1⟩ := blk1 (HB.out _ hb2).2.1; obtain ⟨c2, d2⟩ := blk1 (HB.out _ hb2).2.2; have hz2 := hb2.size; have n1 : ¬ w2.heap.size = w.heap.size + 1 := qD; have n2 : ¬ w.heap.size + 1 = w2.heap.size := qD)
    | (go_at_call 152; refine (HD.out _ (hb2.alloc hb2.size _)).mono ?_; intro e w4 hsaid; obtain ⟨v4, rfl, hv4, hst4⟩ := hsaid; have hb4 := zX (hb2.alloc hb2.size _) hst4; have HV4 := zA hv4; clear hv4; obtain ⟨q0, g0⟩ := blk (HB.out _ hb4).1; obtain ⟨q1, g1⟩ := blk (HB.out _ hb4).2.1))
   go_region;go_wp2_with fail;have hfin := H1.out.trans (hb4.mono hs1);refine zM (kT rfl _ _ (w.heap.size + 1) (.int .i64 A.line) (.int .i64 A.col) rfl (by rw [xS]; simp [qT, jA, (HB.out _ hb4).2.1])) rfl ?_;rw [HR.out, HX.out];have hv4 := HV4.out;have hn4 : n ≤ w.heap.size := HN.out;refine ⟨_, rfl, (qH (qB _) hv4 jN (fun b h _ => jL)), ?_⟩;refine Below.mono ?_ HN.out
   ((with_reducible repeat' first | exact zE _ _ | assumption | refine zG ?_ ?_ _ | refine zH ?_ | refine qR ?_ | refine zF ?_ ?_ _) <;> go_size)
 ·rw [if_neg hc] at HR
  rw [decide_eq_false hc] at hq;clear h hB hc k0 k1 kt hst hn hO hA hs hf he hqt HD;go_enter Tryz.func153, Tryz.ntmps153;go_wp2_with (go_at_call 151; refine (HS.out _ hw0).mono ?_; rintro e w2 ⟨rfl, hst2⟩; have hb2 := zX hw0 hst2; obtain ⟨c0, d0⟩ := blk1 (HB.out _ hb2).1; obtain ⟨c1, d1⟩ := blk1 (HB.out _ hb2).2.1; obtain ⟨c2, d2⟩ := blk1 (HB.out _ hb2).2.2; have hz2 := hb2.size; have n1 : ¬ w2.heap.size = w.heap.size + 1 := qD; have n2 : ¬ w.heap.size + 1 = w2.heap.size := qD);go_region;go_wp2_with fail;have hfin := H1.out.trans (hb2.mono hs1);refine zM (kT rfl _ _ (w.heap.size + 1) (.int .i64 A.line) (.int .i64 A.col) rfl (by rw [xS]; simp [qT, jA, zZ _ _ (HB.out _ hb2).2.1])) rfl ?_;exact DocPB.same HR.out H.out zAR HN.out
set_option maxRecDepth 100000 in
theorem zIi (v : Value) (s : St) (w : World) (S : Nat → Prop) (h : jD w S v s.lines) (he : EnvT w) (hs : Small s.lines) (hf : Fits s.lines) :
  Calls zV 77 #[stV v s] w (StSaid (keyS s (zAw s)) w) := by
 obtain ⟨W1, hW1, hB, hz, k0, k1⟩ := xU w v s;have HB : Hid (∀ W, Below W1.heap.size W1 W → W.heap[w.heap.size]? = some (.cells #[v, .int .i64 s.anc.line, .int .i64 s.anc.col, .int .i64 s.foc.line, .int .i64 s.foc.col, .int .i64 s.on, .int .i64 s.off] 26) ∧ W.heap[w.heap.size + 1]? = some (.cells #[.slice none 0 0, .int .i64 0, .int .i64 0, .int .i64 0, .int .i64 0, .int .i64 0, .int .i64 0] 26)) := zA fun W hW => ⟨zY hW k0, zY hW k1⟩;have hs1 := hB.size;have H1 := zA hB
 have HC := zA (zCu v s 153 #[.pointer (some ⟨w.heap.size, 0, none⟩)] (zAw s) W1 S (h.below (qB _) hB) (he.below hB) hs hf (enters_of Tryz.func153 zT rfl)
  (fun hm n W a c hW h1 h2 h3 => zKq (w.heap.size) v s n a c W (zY hW k0) h3 h2 ((he.below hB).below hW) (uK (yX hm).1).1 (uK (yX hm).1).2))
 obtain ⟨X, hX⟩ : ∃ X, keyS s (zAw s) = X := ⟨_, rfl⟩;rw [hX] at HC ⊢;obtain ⟨p0, f0⟩ := blk k0;obtain ⟨p1, f1⟩ := blk k1;obtain ⟨va, vc, rfl⟩ := h.slice;clear h he hs hf hX k0 k1 hB;go_enter Tryz.func77, Tryz.ntmps77;go_wp2_with (go_at_call 138; refine HC.out.mono ?_; intro e w2 hsaid; obtain ⟨v2, rfl, hv2, hb2⟩ := hsaid; obtain ⟨a2, c2, rfl⟩ := hv2.slice; have HV2 := zA hv2; clear hv2; obtain ⟨q2, g2⟩ := blk (HB.out _ hb2).2);refine zM (jS rfl _ _ (w.heap.size + 1) (.slice a2 X.1.lines.length c2) (.int .i64 X.1.anc.line) (.int .i64 X.1.anc.col) (.int .i64 X.1.foc.line) (.int .i64 X.1.foc.col) (.int .i64 X.1.on) (.int .i64 X.1.off) (.int .i64 X.2) rfl rfl vO) rfl ?_;have hfin := H1.out.trans (hb2.mono hs1);have hv2 := HV2.out;exact ⟨_, rfl, (qH (qB _) hv2 jN (fun b h _ => jL)), by ((with_reducible repeat' first | exact zE _ _ | assumption | refine zG ?_ ?_ _ | refine zH ?_ | refine qR ?_ | refine zF ?_ ?_ _) <;> go_size)⟩
end Go.Proofs.YtcliojeoindceaaGreatDoor
namespace Go.Proofs.Qw
open Go.RowKit Go.Proofs.YtcliojeoindceaaGreatDoor
def vI (c : Int) : Int × Bool := if c = 9 ∨ c = 12 ∨ c = 13 then (32, true) else if c = 10 then (c, true) else (c, !(vL c == 1))
theorem zJp (c : Int) : (if (vI c).2 = true then some (vI c).1 else none) = zBX c := by
 unfold vI zBX
 split
 ·rfl
 ·split
  ·rename_i h; subst h; rfl
  ·by_cases h : vL c = 1
   ·rw [if_pos h]; simp [h]
   ·rw [if_neg h]; simp [h]
end Go.Proofs.Qw
namespace Go.Proofs.YtcliojeoindceaaGreatDoor
open Go.RowKit
open Go.Proofs.Qw
attribute [local go_sem] Oper.semAt_some
open _root_.Go.Lib renaming hid → zA
open _root_.Nat renaming le_refl → zC
open _root_.Array renaming getElem?_eq_some_iff → zL
open _root_.Go.Proofs.Tryz renaming prog → zV
open _root_.Go.Proofs.Qw renaming jZ → qC
theorem zHa : RowT zV 137 21 1 := RowT.mk' (y := 4) Tryz.underlying137 zT qW (z := .int .i32 0) qW
theorem zNf : Elt 21 1 (rdOf zCM) := zCQ _ qW (fun _ => rfl) (fun x u hu => by simp [zCM] at hu; subst hu; rfl)
theorem zLc (r : Int) : ∀ u ∈ [Value.int .i32 r], u.oneCell' = true := fun u hu => by simp at hu; subst hu; rfl
theorem zKW (c : Int) (w : World) :
  Calls zV 225 #[.int .i32 c] w fun e w' => e = .returned (.tuple #[.int .i32 (vI c).1, .bool (vI c).2]) ∧ w' = w := by
 have HC := zA (zGv c w)
 by_cases h9 : c = 9
 ·subst h9
  clear HC;go_enter Tryz.func225, Tryz.ntmps225;go_wp2_with fail;go_ret2;rw [show vI 9 = (32, true) from if_pos qW];exact ⟨rfl, rfl⟩
 by_cases h12 : c = 12
 ·subst h12
  clear HC;go_enter Tryz.func225, Tryz.ntmps225;go_wp2_with fail;go_ret2;rw [show vI 12 = (32, true) from if_pos qW];exact ⟨rfl, rfl⟩
 by_cases h13 : c = 13
 ·subst h13
  clear HC;go_enter Tryz.func225, Tryz.ntmps225;go_wp2_with fail;go_ret2;rw [show vI 13 = (32, true) from if_pos qW];exact ⟨rfl, rfl⟩
 by_cases h10 : c = 10
 ·subst h10
  clear HC;go_enter Tryz.func225, Tryz.ntmps225;go_wp2_with fail;go_ret2;rw [show vI 10 = (10, true) from (if_neg qW).trans (if_pos rfl)];exact ⟨rfl, rfl⟩
 have HR : Hid (vI c = (c, !(vL c == 1))) := zA (by unfold vI; rw [if_neg qD, if_neg h10]);have b9 : (c == 9) = false := by simpa using h9
 have b12 : (c == 12) = false := by simpa using h12
 have b13 : (c == 13) = false := by simpa using h13
 have b10 : (c == 10) = false := by simpa using h10
 clear h9 h12 h13 h10
 generalize vL c = k at *
 go_enter Tryz.func225, Tryz.ntmps225;go_wp2_with (go_at_call 276; refine HC.out.mono ?_; rintro e w' ⟨rfl, rfl⟩);go_ret2;rw [HR.out];exact ⟨rfl, rfl⟩
theorem zEJ (s : ByteArray) : ∀ (f pos : Nat), (xJ s f pos).length ≤ f
 | 0, _ => zC _
 | f + 1, pos => by
  unfold xJ
  split
  ·have := zEJ s f (pos + (Utf8.decode s pos).2)
   rw [List.length_cons]; omega
  ·simp
theorem zDo (s : ByteArray) : (vH s).length ≤ s.size := zEJ s _ _
set_option maxRecDepth 100000 in
theorem zMF (s : ByteArray) (g : Nat) (F : Int → Int × Bool) (eg : ∀ args w, (callFunc g args).run zV w = .ok (.enter g args) w)
  (hF : ∀ c w, Calls zV g #[.int .i32 c] w fun e w' => e = .returned (.tuple #[.int .i32 (F c).1, .bool (F c).2]) ∧ w' = w) (w : World) (hs : s.size ≤ 10000000) :
  Calls zV 224 #[.string s, .func (.func g) #[] #[]] w fun e w' => ∃ v, e = .returned v ∧ zBZ true w' (fun b => w.heap.size ≤ b) v ((vH s).filterMap fun c => if (F c).2 = true then some (F c).1 else none) ∧ Below w.heap.size w w' := by
 obtain ⟨G, hG⟩ : ∃ G : Int → Option Int, (fun c => if (F c).2 = true then some (F c).1 else none) = G := ⟨_, rfl⟩;have HG : Hid (∀ c, G c = if (F c).2 = true then some (F c).1 else none) := zA fun c => by rw [← hG]
 rw [hG];have HF := zA hF;clear hG hF;go_enter Tryz.func224, Tryz.ntmps224;go_wp2_with fail;go_loopw [5] (fun l wr => ∃ (pos fuel : Nat) (acc : List Int), Hid (zBZ true wr (fun b => w.heap.size + 1 ≤ b) l acc) ∧ wr.heap[w.heap.size]? = some (.stringIter s pos) ∧ Hid (Below w.heap.size w wr) ∧ Hid (acc ++ (xJ s fuel pos).filterMap G = (vH s).filterMap G) ∧ s.size ≤ pos + fuel) (fun _ wr => s.size - wr.iterPos w.heap.size)
 case atStart => exact ⟨0, s.size, [], zA (SliceR.nil _ _ _ _ _ _), World.iter_heap w s 0, zA ((Below.refl _ _).alloc (zC _) _), zA rfl, by omega⟩
 case round =>
  obtain ⟨pos, fuel, acc, HO, hit, HB, HA, hfu⟩ := hrel;have hsz : w.heap.size < wr.heap.size := (zL.1 hit).1
  by_cases hp : pos < s.size
  ·have hwd := Lib.decode_width_pos s pos hp
   have hd1 := decode_le s pos;have hnx : ∀ ty, (Instr.next (.pointer (some ⟨w.heap.size, 0, none⟩)) true ty).run zV wr = .ok (.tuple #[.bool true, .int .i64 pos, .int .i32 (Utf8.decode s pos).1]) (wr.iterAt w.heap.size s (pos + (Utf8.decode s pos).2)) := fun ty => Lib.run_next_any_at wr w.heap.size s pos ty hit hp;have hit2 := Lib.iterAt_heap wr w.heap.size s pos (pos + (Utf8.decode s pos).2) hit;have hbw2 := Lib.below_iterAt HB.out (k := w.heap.size) (zC _) s (pos + (Utf8.decode s pos).2);have hsz2 : (wr.iterAt w.heap.size s (pos + (Utf8.decode s pos).2)).heap.size = wr.heap.size := Lib.iterAt_size _ _ _ _;have HO2 := zA (SliceR.stable (w' := wr.iterAt w.heap.size s (pos + (Utf8.decode s pos).2)) (S' := fun b => w.heap.size + 1 ≤ b) (qC zCM) HO.out (Keeps.only (b := w.heap.size) hsz2 (fun d hd => Lib.iterAt_other _ _ _ _ _ hd) qF) (fun _ h _ => h));obtain ⟨f, rfl⟩ : ∃ f, fuel = f + 1 := ⟨fuel - 1, by omega⟩;have HA2 : Hid (acc ++ (((Utf8.decode s pos).1 : Int) :: xJ s f (pos + (Utf8.decode s pos).2)).filterMap G = (vH s).filterMap G) := zA (by have := HA.out; unfold xJ at this; rw [if_pos hp] at this; exact this);obtain ⟨wi, hwi⟩ : ∃ wi, wr.iterAt w.heap.size s (pos + (Utf8.decode s pos).2) = wi := ⟨_, rfl⟩;rw [hwi] at hnx hit2 hbw2 hsz2 HO2;obtain ⟨c, hcc⟩ : ∃ c : Int, ((Utf8.decode s pos).1 : Int) = c := ⟨_, rfl⟩;rw [hcc] at hnx HA2;obtain ⟨pos', hpp⟩ : ∃ pos', pos + (Utf8.decode s pos).2 = pos' := ⟨_, rfl⟩;have hpl : pos + 1 ≤ pos' := by omega
   rw [hpp] at hit2 HA2;obtain ⟨r, t, hrt⟩ : ∃ r t, F c = (r, t) := ⟨_, _, rfl⟩
   have HFc : Hid (∀ W, Calls zV g #[.int .i32 c] W fun e w' => e = .returned (.tuple #[.int .i32 r, .bool t]) ∧ w' = W) := zA fun W => by
    have := HF.out c W;rw [hrt] at this;exact this
   have hGc := HG.out c;rw [hrt] at hGc;have hm1 : (wi.iterPos w.heap.size) = pos' := by simp only [World.iterPos, hit2]
   have hm0 : (wr.iterPos w.heap.size) = pos := by simp only [World.iterPos, hit]
   have HB2 := zA hbw2;have HIT := zA hit2;have hlw : w.heap.size < wi.heap.size := (zL.1 hit2).1;have HM := zA (And.intro hm0 hm1);clear hit hit2 hbw2 HB HA HO HF HG hcc hpp hwi hrt hd1 hwd hm0 hm1 hsz2;cases t
   ·have HA3 : Hid (acc ++ (xJ s f pos').filterMap G = (vH s).filterMap G) := zA (by have := HA2.out; rw [List.filterMap_cons, hGc] at this; exact this)
    clear hGc;go_wp2_with (go_at_fn g; refine (HFc.out _).mono ?_; rintro e w1 ⟨rfl, rfl⟩);go_roundw
    case rel => exact ⟨pos', f, acc, HO2, HIT.out, HB2, HA3, by omega⟩
    case measure => rw [HM.out.1, HM.out.2]; omega
   ·have HA3 : Hid ((acc ++ [r]) ++ (xJ s f pos').filterMap G = (vH s).filterMap G) := zA (by have := HA2.out; rw [List.filterMap_cons, hGc] at this; simpa using this)
    have HL : Hid (acc.length + 1 ≤ 10000000) := zA (by
     have h1 := congrArg List.length HA3.out;have h2 := List.length_filterMap_le G (vH s);have h3 := zDo s;simp only [List.length_append, List.length_singleton] at h1
     omega)
    clear hGc
    go_wp2_with (first
     | (go_at_fn g; refine (HFc.out _).mono ?_; rintro e w1 ⟨rfl, rfl⟩)
     | (at_builtin; refine zAj _ rfl _ _ 137 137 rfl zHa zNf (w.heap.size + 1) _ _ (xs := acc) (ys := [r]) (news := [.int .i32 r]) rfl rfl (SliceR.below (qC _) HO2.out ((Below.refl _ _).alloc (zC _) _)) jB (zBl zHa _ _ rfl (zLc r) 1 rfl) (NewsR.one rfl rfl) (by have := HL.out; simp only [List.length_singleton]; omega) ?_; intro v' w2 hR hB' _ _; have HR := zA hR; have HB' := zA hB'; clear hR hB'))
    have hi2 := (HB'.out.block w.heap.size (Nat.lt_succ_self _)).trans (jK _ _ HIT.out);go_roundw
    case rel => exact ⟨pos', f, acc ++ [r], HR, hi2, zA ((HB2.out.alloc HB2.out.size _).trans (HB'.out.mono (Nat.le_succ _))), HA3, by omega⟩
    case measure => rw [HM.out.1]; simp only [World.iterPos, hi2]; omega
  ·have hnx : ∀ ty, (Instr.next (.pointer (some ⟨w.heap.size, 0, none⟩)) true ty).run zV wr = .ok (.tuple #[.bool false]) wr := fun ty => Lib.run_next_end_at wr w.heap.size s pos ty hit hp
   have HA2 : Hid (acc = (vH s).filterMap G) := zA (by
    have := HA.out;cases fuel with
    | zero => simpa [xJ] using this
    | succ f => unfold xJ at this; rw [if_neg hp] at this; simpa using this)
   clear HF HG HA hit;go_wp2_with fail;go_ret;refine ⟨_, rfl, ?_, HB.out⟩;rw [← HA2.out];exact SliceR.stable (qC _) HO.out (Keeps.refl _ _) (fun b h _ => Nat.le_of_succ_le h)
theorem zGu (s : ByteArray) (w : World) (hs : s.size ≤ 10000000) :
  Calls zV 140 #[.string s] w fun e w' => ∃ v, e = .returned v ∧ zBZ true w' (fun b => w.heap.size ≤ b) v (xV s) ∧ Below w.heap.size w w' := by
 have HE := zA (zMF s 225 vI (enters_of Tryz.func225 zT rfl) zKW w hs);have e : (fun c => if (vI c).2 = true then some (vI c).1 else none) = zBX := funext zJp;rw [e] at HE;clear e;go_enter Tryz.func140, Tryz.ntmps140;go_wp2_with (go_at_call 224; refine HE.out.mono ?_; rintro e w2 ⟨v, rfl, hv, hb⟩);go_ret;exact ⟨_, rfl, hv, hb⟩
set_option maxRecDepth 100000 in
theorem zJI (s : ByteArray) (b : Int) (h : List UInt8) (w : World) (hs : s.size ≤ 10000000) :
  Calls zV 143 #[.string s, .int .i64 b, .string ⟨h.toArray⟩] w fun e w' => ∃ v, e = .returned v ∧ jE true w' (fun b => w.heap.size ≤ b) v (cellsOf (xV s) b h) ∧ Below w.heap.size w w' := by
 have HRu := zA (zGu s w hs);have hln : (xV s).length ≤ s.size := Nat.le_trans (List.length_filterMap_le _ _) (zDo s);obtain ⟨d, hd⟩ : ∃ d, xV s = d := ⟨_, rfl⟩;rw [hd] at HRu hln ⊢;clear hd;go_enter Tryz.func143, Tryz.ntmps143;go_wp2_with (go_at_call 140; refine HRu.out.mono ?_; rintro e w2 ⟨v2, rfl, hv2, hb2⟩; obtain ⟨a2, c2, rfl, hc2, hm2, hx2⟩ := zJf hv2; have HX := zA hx2; clear hv2 hx2);have HW2 := zA hb2;unfold maxLen at hm2;clear hb2;go_loopw [7, 13] (fun out z wr => ∃ k : Nat, k ≤ d.length ∧ z = .int .i64 k ∧ Hid (jE true wr (fun b => w2.heap.size ≤ b) out (cellsOf (d.take k) b h)) ∧ Below w2.heap.size w2 wr) (fun _ z _ => d.length - (intOf z).toNat)
 case atStart => exact ⟨0, Nat.zero_le _, rfl, zA (SliceR.nil _ _ _ _ _ _), Below.refl _ _⟩
 case round =>
  obtain ⟨k, hk, rfl, HO, hb⟩ := hrel
  by_cases hlt : k < d.length
  ·obtain ⟨x, hx, _⟩ := jP d k hlt
   obtain ⟨b1, o1, rfl, hz1, hcell⟩ := HX.out k x hx;have hcl := (hb.cell hz1).trans hcell;have HT : Hid (cellsOf (d.take (k + 1)) b h = cellsOf (d.take k) b h ++ [⟨x, b, h⟩]) := zA (by unfold cellsOf; rw [vP hx, List.map_append]; rfl);have HL : Hid ((cellsOf (d.take k) b h).length ≤ 10000000) := zA (by unfold cellsOf; rw [List.length_map, List.length_take]; omega);have i0 : (0 : Int) ≤ (k : Int) := Int.natCast_nonneg _;have i1 : (k : Int) < (d.length : Int) := by omega
   have hbs := hb.size;clear hx hz1 hcell;go_wp2_with (at_builtin; refine zAj _ rfl _ _ 58 58 rfl uY zAa w2.heap.size _ _ (xs := cellsOf (d.take k) b h) (ys := [(⟨x, b, h⟩ : Cel)]) (news := [.int .i32 x, .int .i64 b, .string ⟨h.toArray⟩]) rfl rfl (SliceR.below (qC _) HO.out ((Below.refl _ _).alloc (zC _) _)) jB (zBl uY _ _ rfl (fun u hu => by simp at hu; rcases hu with rfl | rfl | rfl <;> rfl) 1 rfl) (NewsR.one rfl rfl) (by have := HL.out; simp only [List.length_singleton]; omega) ?_; intro v' w4 hR hB' _ _; rw [← HT.out] at hR; have HR := zA hR; have HB' := zA hB'; clear hR hB');go_roundw
   case rel => exact ⟨k + 1, hlt, by go_num, HR, (hb.alloc hbs _).trans HB'.out⟩
   case measure => simp [intOf]; omega
  ·obtain rfl : k = d.length := by omega
   have HBB := zA hb;clear hb;go_wp2_with fail;go_ret;have h9 := HO.out;rw [List.take_length] at h9;exact ⟨_, rfl, SliceR.stable (qC _) h9 (Keeps.refl _ _) (fun b h _ => Nat.le_trans HW2.out.size h), jG HW2.out HBB.out⟩
end Go.Proofs.YtcliojeoindceaaGreatDoor
namespace Go.Proofs.Qw
open Go.RowKit Go.Proofs.YtcliojeoindceaaGreatDoor
theorem zKu {d : Doc} {a b : Ps} (h : jU d a b = true) : flat (vB d a b).1 = cellsD d a b := by
 unfold vB cellsD flat;rw [if_pos h, if_pos h];exact zKt d _
end Go.Proofs.Qw
namespace Go.Proofs.YtcliojeoindceaaGreatDoor
open Go.RowKit
open Go.Proofs.Qw
attribute [local go_sem] Oper.semAt_some
open _root_.Go.Lib renaming hid → zA
open _root_.Go.RowKit.Below renaming refl → zE
open _root_.Go.Proofs.Tryz renaming prog → zV
open _root_.Go.Proofs.YtcliojeoindceaaGreatDoor renaming jI → zY
open _root_.Go.Proofs.Qw renaming jW → qB
theorem zCh (v : Value) (d : List Int) (t : Int) (w : World) (S : Nat → Prop) (h : jJ false w S v d) :
  Calls zV 241 #[v, .int .i64 t] w fun e w' => e = .returned (.bool (d.any fun x => x == t)) ∧ w' = w := by
 have HC : Hid (Calls zV 283 #[v, .int .i64 t] w fun e w' => ∃ r : Int, e = .returned (.int .i64 r) ∧ decide (0 ≤ r) = (d.any fun x => x == t) ∧ w' = w) := zA (by
  obtain ⟨a, c, rfl, hc, hm, hx⟩ := zAH h;have HX := zA hx;clear hx h;unfold maxLen at hm;go_enter Tryz.func283, Tryz.ntmps283;go_wp2_with fail;go_loopw [5, 8] (fun _ i wr => ∃ k : Nat, k ≤ d.length ∧ i = .int .i64 k ∧ Hid ((d.any fun x => x == t) = ((d.drop k).any fun x => x == t)) ∧ w = wr) (fun _ i _ => d.length - (intOf i).toNat)
  case atStart => exact ⟨0, Nat.zero_le _, rfl, zA rfl, rfl⟩
  case round =>
   obtain ⟨k, hk, rfl, HK, rfl⟩ := hrel;have k0 : (0 : Int) ≤ (k : Int) := Int.natCast_nonneg _
   by_cases hlt : k < d.length
   ·obtain ⟨x, hx, hd⟩ := jP d k hlt
    obtain ⟨b, o, rfl, hz, c0⟩ := HX.out k x hx;rw [hd, List.any_cons] at HK;cases hq : x == t
    ·have hq' : (t == x) = false := by rw [Bool.beq_comm]; exact hq
     rw [hq, Bool.false_or] at HK;clear hx hd;go_wp2_with fail;go_roundw
     case rel => exact ⟨k + 1, hlt, by go_num, HK, by simp⟩
     case measure => simp [intOf]; omega
    ·have hq' : (t == x) = true := by rw [Bool.beq_comm]; exact hq
     rw [hq, Bool.true_or] at HK;clear hx hd;go_wp2_with fail;go_ret;exact ⟨k, rfl, by rw [HK.out]; exact decide_eq_true k0, rfl⟩
   ·obtain rfl : k = d.length := by omega
    rw [List.drop_length] at HK;go_wp2_with fail;go_ret;exact ⟨-1, rfl, by rw [HK.out]; rfl, rfl⟩)
 obtain ⟨a, c, rfl⟩ := h.slice;clear h
 generalize (d.any fun x => x == t) = R at *
 go_enter Tryz.func241, Tryz.ntmps241;go_wp2_with (go_at_call 283; refine HC.out.mono ?_; rintro e w1 ⟨r, rfl, hr, rfl⟩; have HRR := zA hr; clear hr);go_ret;rw [← HRR.out];exact ⟨rfl, rfl⟩
theorem zCG (t : Int) : ([1, 2, 4, 8].any fun x => x == t) = four t := by
 unfold four;rw [Bool.eq_iff_iff];simp only [List.any_cons, List.any_nil, Bool.or_eq_true, beq_iff_eq, decide_eq_true_eq, Bool.or_false]
 omega
set_option maxRecDepth 100000 in
theorem zHD (Bt : Nat) (v : Value) (d : Doc) (a b : Ps) (t : Int) (w : World) (S : Nat → Prop) (h : jD w S v d) (he : EnvT w) (hs : Small d) (hf : Fits d) (ht : w.heap[Bt]? = some (.cells #[.int .i64 t] 3)) :
  Calls zV 242 #[v, posV a, posV b, .pointer (some ⟨Bt, 0, none⟩)] w (DocSaid (if allL (cellsD d a b) t = true then setD 0 t d a b else setD t 0 d a b) w) := by
 obtain ⟨W1, hW1, hB, hz, k0, k1⟩ := vX w (.int .i64 a.line) (.int .i64 a.col) (.int .i64 b.line) (.int .i64 b.col);have kt := zY hB ht;have HB : Hid (∀ W, Below W1.heap.size W1 W → W.heap[w.heap.size]? = some (.cells #[.int .i64 a.line, .int .i64 a.col] 24) ∧ W.heap[w.heap.size + 1]? = some (.cells #[.int .i64 b.line, .int .i64 b.col] 24) ∧ W.heap[Bt]? = some (.cells #[.int .i64 t] 3)) := zA fun W hW => ⟨zY hW k0, zY hW k1, zY hW kt⟩;have hs1 := hB.size;have H1 := zA hB;have hw0 : Below W1.heap.size W1 W1 := zE _ _;have HV : Hid (∀ W, Below W1.heap.size W1 W → jD W S v d) := zA fun W hW => h.below (qB _) (hB.trans (hW.mono hs1));have HE : Hid (∀ W, Below W1.heap.size W1 W → EnvT W) := zA fun W hW => (he.below hB).below hW
 have HAl : Hid (∀ W, Below W1.heap.size W1 W → Calls zV 117 #[v, .agg #[.int .i64 a.line, .int .i64 a.col], .agg #[.int .i64 b.line, .int .i64 b.col], .int .i64 t] W fun e w' => e = .returned (.bool (allL (cellsD d a b) t)) ∧ Below W.heap.size W w') := zA fun W hW => by
  have := zFT v d a b t W S _ rfl (HV.out W hW) (HE.out W hW) hs;rw [zGc] at this;exact this
 have HSe : Hid (∀ (x y : Int) W, Below W1.heap.size W1 W → Calls zV 162 #[v, .agg #[.int .i64 a.line, .int .i64 a.col], .agg #[.int .i64 b.line, .int .i64 b.col], .int .i64 x, .int .i64 y] W (DocSaid (setD x y d a b) W)) := zA fun x y W hW => zFR v d a b x y W S (HV.out W hW) (HE.out W hW) hs hf;have HP : Hid (∀ p : Ps, posV p = .agg #[.int .i64 p.line, .int .i64 p.col]) := zA fun _ => rfl;obtain ⟨p0, f0⟩ := blk k0;obtain ⟨p1, f1⟩ := blk k1;obtain ⟨p2, f2⟩ := blk kt;obtain ⟨va, vc, rfl⟩ := h.slice;rw [HP.out a, HP.out b]
 generalize allL (cellsD d a b) t = r at *
 clear h he hs hf k0 k1 kt ht hB;cases r
 ·rw [if_neg qF]
  go_enter Tryz.func242, Tryz.ntmps242
  go_wp2_with (first
   | (go_at_call 117; refine (HAl.out _ hw0).mono ?_; rintro e w2 ⟨rfl, hst2⟩; have hb2 := jG hw0 hst2; obtain ⟨q0, g0⟩ := blk (HB.out _ hb2).1; obtain ⟨q1, g1⟩ := blk (HB.out _ hb2).2.1; obtain ⟨q2, g2⟩ := blk (HB.out _ hb2).2.2)
   | (go_at_call 162; refine (HSe.out _ _ _ hb2).mono ?_; intro e w3 hsaid; have hsaid := DocSaid.from hsaid (H1.out.trans (hb2.mono hs1)); obtain ⟨v3, rfl, hv3, hb3⟩ := hsaid))
  go_ret2;exact ⟨_, rfl, hv3, hb3⟩
 ·rw [if_pos rfl]
  go_enter Tryz.func242, Tryz.ntmps242
  go_wp2_with (first
   | (go_at_call 117; refine (HAl.out _ hw0).mono ?_; rintro e w2 ⟨rfl, hst2⟩; have hb2 := jG hw0 hst2; obtain ⟨q0, g0⟩ := blk (HB.out _ hb2).1; obtain ⟨q1, g1⟩ := blk (HB.out _ hb2).2.1; obtain ⟨q2, g2⟩ := blk (HB.out _ hb2).2.2)
   | (go_at_call 162; refine (HSe.out _ _ _ hb2).mono ?_; intro e w3 hsaid; have hsaid := DocSaid.from hsaid (H1.out.trans (hb2.mono hs1)); obtain ⟨v3, rfl, hv3, hb3⟩ := hsaid))
  go_ret2;exact ⟨_, rfl, hv3, hb3⟩
set_option maxRecDepth 100000 in
theorem zIn (Bt : Nat) (v : Value) (d : Doc) (a b : Ps) (hr : List UInt8) (w : World) (S : Nat → Prop) (h : jD w S v d) (he : EnvT w) (hs : Small d) (hf : Fits d) (hh : hr.length ≤ 1000000) (ht : w.heap[Bt]? = some (.cells #[.string ⟨hr.toArray⟩] 9)) :
  Calls zV 157 #[v, posV a, posV b, .pointer (some ⟨Bt, 0, none⟩)] w (DocSaid (if yQ hr = true then vM hr d a b else ([], 1)) w) := by
 obtain ⟨W1, hW1, hB, hz, k0, k1⟩ := vX w (.int .i64 a.line) (.int .i64 a.col) (.int .i64 b.line) (.int .i64 b.col);have kt := zY hB ht;have HB : Hid (∀ W, Below W1.heap.size W1 W → W.heap[w.heap.size]? = some (.cells #[.int .i64 a.line, .int .i64 a.col] 24) ∧ W.heap[w.heap.size + 1]? = some (.cells #[.int .i64 b.line, .int .i64 b.col] 24) ∧ W.heap[Bt]? = some (.cells #[.string ⟨hr.toArray⟩] 9)) := zA fun W hW => ⟨zY hW k0, zY hW k1, zY hW kt⟩;have hs1 := hB.size;have H1 := zA hB;have hw0 : Below W1.heap.size W1 W1 := zE _ _;have HV : Hid (∀ W, Below W1.heap.size W1 W → jD W S v d) := zA fun W hW => h.below (qB _) (hB.trans (hW.mono hs1));have HE : Hid (∀ W, Below W1.heap.size W1 W → EnvT W) := zA fun W hW => (he.below hB).below hW;have HAl : Hid (∀ W, Below W1.heap.size W1 W → Calls zV 158 #[.string ⟨hr.toArray⟩] W fun e w' => e = .returned (.bool (yQ hr)) ∧ Below W.heap.size W w') := zA fun W hW => zDC ⟨hr.toArray⟩ W (HE.out W hW) zEw;have HSe : Hid (∀ W, Below W1.heap.size W1 W → Calls zV 159 #[v, .agg #[.int .i64 a.line, .int .i64 a.col], .agg #[.int .i64 b.line, .int .i64 b.col], .string ⟨hr.toArray⟩] W (DocSaid (vM hr d a b) W)) := zA fun W hW => zFr v d a b hr W S (HV.out W hW) (HE.out W hW) hs hf hh;have HP : Hid (∀ p : Ps, posV p = .agg #[.int .i64 p.line, .int .i64 p.col]) := zA fun _ => rfl;obtain ⟨p0, f0⟩ := blk k0;obtain ⟨p1, f1⟩ := blk k1;obtain ⟨p2, f2⟩ := blk kt;obtain ⟨va, vc, rfl⟩ := h.slice;rw [HP.out a, HP.out b]
 generalize yQ hr = r at *
 clear h he hs hf hh k0 k1 kt ht hB;cases r
 ·rw [if_neg qF]
  go_enter Tryz.func157, Tryz.ntmps157;go_wp2_with ((go_at_call 158; refine (HAl.out _ hw0).mono ?_; rintro e w2 ⟨rfl, hst2⟩; have hb2 := jG hw0 hst2; skip));go_ret2;exact ⟨_, rfl, SliceR.nil _ _ _ _ _ _, H1.out.trans (hb2.mono hs1)⟩
 ·rw [if_pos rfl]
  go_enter Tryz.func157, Tryz.ntmps157
  go_wp2_with (first
   | (go_at_call 158; refine (HAl.out _ hw0).mono ?_; rintro e w2 ⟨rfl, hst2⟩; have hb2 := jG hw0 hst2; obtain ⟨q0, g0⟩ := blk (HB.out _ hb2).1; obtain ⟨q1, g1⟩ := blk (HB.out _ hb2).2.1; obtain ⟨q2, g2⟩ := blk (HB.out _ hb2).2.2)
   | (go_at_call 159; refine (HSe.out _ hb2).mono ?_; intro e w3 hsaid; have hsaid := DocSaid.from hsaid (H1.out.trans (hb2.mono hs1)); obtain ⟨v3, rfl, hv3, hb3⟩ := hsaid))
  go_ret2;exact ⟨_, rfl, hv3, hb3⟩
set_option maxRecDepth 100000 in
theorem zHU (v : Value) (d : Doc) (a b : Ps) (w : World) (S : Nat → Prop) (h : jD w S v d) (he : EnvT w) (hs : Small d) (hf : Fits d) :
  Calls zV 161 #[v, posV a, posV b] w (DocSaid (if uG (cellsD d a b) 15 = true then setD 0 15 d a b else ([], 7)) w) := by
 obtain ⟨W1, hW1, hB, hz, k0, k1⟩ := vX w (.int .i64 a.line) (.int .i64 a.col) (.int .i64 b.line) (.int .i64 b.col);have HB : Hid (∀ W, Below W1.heap.size W1 W → W.heap[w.heap.size]? = some (.cells #[.int .i64 a.line, .int .i64 a.col] 24) ∧ W.heap[w.heap.size + 1]? = some (.cells #[.int .i64 b.line, .int .i64 b.col] 24)) := zA fun W hW => ⟨zY hW k0, zY hW k1⟩;have hs1 := hB.size;have H1 := zA hB;have hw0 : Below W1.heap.size W1 W1 := zE _ _;have HV : Hid (∀ W, Below W1.heap.size W1 W → jD W S v d) := zA fun W hW => h.below (qB _) (hB.trans (hW.mono hs1));have HE : Hid (∀ W, Below W1.heap.size W1 W → EnvT W) := zA fun W hW => (he.below hB).below hW
 have HAl : Hid (∀ W, Below W1.heap.size W1 W → Calls zV 116 #[v, .agg #[.int .i64 a.line, .int .i64 a.col], .agg #[.int .i64 b.line, .int .i64 b.col], .int .i64 15] W fun e w' => e = .returned (.bool (uG (cellsD d a b) 15)) ∧ Below W.heap.size W w') := zA fun W hW => by
  have := zFp v d a b 15 W S _ rfl (HV.out W hW) (HE.out W hW) hs;rw [zGb] at this;exact this
 have HSe : Hid (∀ W, Below W1.heap.size W1 W → Calls zV 162 #[v, .agg #[.int .i64 a.line, .int .i64 a.col], .agg #[.int .i64 b.line, .int .i64 b.col], .int .i64 0, .int .i64 15] W (DocSaid (setD 0 15 d a b) W)) := zA fun W hW => zFR v d a b 0 15 W S (HV.out W hW) (HE.out W hW) hs hf;have HP : Hid (∀ p : Ps, posV p = .agg #[.int .i64 p.line, .int .i64 p.col]) := zA fun _ => rfl;obtain ⟨p0, f0⟩ := blk k0;obtain ⟨p1, f1⟩ := blk k1;obtain ⟨va, vc, rfl⟩ := h.slice;rw [HP.out a, HP.out b]
 generalize uG (cellsD d a b) 15 = r at *
 clear h he hs hf k0 k1 hB;cases r
 ·rw [if_neg qF]
  go_enter Tryz.func161, Tryz.ntmps161;go_wp2_with ((go_at_call 116; refine (HAl.out _ hw0).mono ?_; rintro e w2 ⟨rfl, hst2⟩; have hb2 := jG hw0 hst2; skip));go_ret2;exact ⟨_, rfl, SliceR.nil _ _ _ _ _ _, H1.out.trans (hb2.mono hs1)⟩
 ·rw [if_pos rfl]
  go_enter Tryz.func161, Tryz.ntmps161
  go_wp2_with (first
   | (go_at_call 116; refine (HAl.out _ hw0).mono ?_; rintro e w2 ⟨rfl, hst2⟩; have hb2 := jG hw0 hst2; obtain ⟨q0, g0⟩ := blk (HB.out _ hb2).1; obtain ⟨q1, g1⟩ := blk (HB.out _ hb2).2)
   | (go_at_call 162; refine (HSe.out _ hb2).mono ?_; intro e w3 hsaid; have hsaid := DocSaid.from hsaid (H1.out.trans (hb2.mono hs1)); obtain ⟨v3, rfl, hv3, hb3⟩ := hsaid))
  go_ret2;exact ⟨_, rfl, hv3, hb3⟩
theorem zDO (w : World) (v : Value) (s : St) (u : Value) (t : TypeId) : ∃ W1, ((w.alloc (.cells #[v, .int .i64 s.anc.line, .int .i64 s.anc.col, .int .i64 s.foc.line, .int .i64 s.foc.col, .int .i64 s.on, .int .i64 s.off] 26)).alloc (.cells #[u] t)).alloc (.cells #[.slice none 0 0, .int .i64 0, .int .i64 0, .int .i64 0, .int .i64 0, .int .i64 0, .int .i64 0] 26) = W1 ∧ Below w.heap.size w W1 ∧ w.heap.size + 3 = W1.heap.size ∧
  W1.heap[w.heap.size]? = some (.cells #[v, .int .i64 s.anc.line, .int .i64 s.anc.col, .int .i64 s.foc.line, .int .i64 s.foc.col, .int .i64 s.on, .int .i64 s.off] 26) ∧ W1.heap[w.heap.size + 1]? = some (.cells #[u] t) ∧ W1.heap[w.heap.size + 2]? = some (.cells #[.slice none 0 0, .int .i64 0, .int .i64 0, .int .i64 0, .int .i64 0, .int .i64 0, .int .i64 0] 26) :=
 ⟨_, rfl, zBY (zE _ _) _ _ _, by simp, jK _ _ (jK _ _ (jF _ _ rfl)), jK _ _ (jF _ _ qF), jF _ _ qF⟩
set_option maxRecDepth 100000 in
theorem zIZ (v : Value) (s : St) (hr : List UInt8) (w : World) (S : Nat → Prop) (h : jD w S v s.lines) (he : EnvT w) (hs : Small s.lines) (hf : Fits s.lines) (hh : hr.length ≤ 1000000) :
  Calls zV 79 #[stV v s, .string ⟨hr.toArray⟩] w (StSaid (xI s (zBs s hr)) w) := by
 obtain ⟨W1, hW1, hB, hz, k0, k1, k2⟩ := zDO w v s (.string ⟨hr.toArray⟩) 9;have HB : Hid (∀ W, Below W1.heap.size W1 W → W.heap[w.heap.size]? = some (.cells #[v, .int .i64 s.anc.line, .int .i64 s.anc.col, .int .i64 s.foc.line, .int .i64 s.foc.col, .int .i64 s.on, .int .i64 s.off] 26) ∧ W.heap[w.heap.size + 2]? = some (.cells #[.slice none 0 0, .int .i64 0, .int .i64 0, .int .i64 0, .int .i64 0, .int .i64 0, .int .i64 0] 26)) := zA fun W hW => ⟨zY hW k0, zY hW k2⟩;have hs1 := hB.size;have H1 := zA hB
 have HC := zA (zCj v s 157 #[.pointer (some ⟨w.heap.size + 1, 0, none⟩)] (zBs s hr) W1 S (h.below (qB _) hB) (he.below hB) hs (enters_of Tryz.func157 zT rfl)
  (fun _ W hW => zIn (w.heap.size + 1) v s.lines (qV s).1 (qV s).2 hr W S (h.below (qB _) (hB.trans (hW.mono hs1))) ((he.below hB).below hW) hs hf hh (zY hW k1)))
 obtain ⟨X, hX⟩ : ∃ X, xI s (zBs s hr) = X := ⟨_, rfl⟩;rw [hX] at HC ⊢;obtain ⟨p0, f0⟩ := blk k0;obtain ⟨p1, f1⟩ := blk k1;obtain ⟨p2, f2⟩ := blk k2;obtain ⟨va, vc, rfl⟩ := h.slice;clear h he hs hf hh hX k0 k1 k2 hB;go_enter Tryz.func79, Tryz.ntmps79;go_wp2_with (go_at_call 156; refine HC.out.mono ?_; intro e w2 hsaid; obtain ⟨v2, rfl, hv2, hb2⟩ := hsaid; obtain ⟨a2, c2, rfl⟩ := hv2.slice; have HV2 := zA hv2; clear hv2; obtain ⟨q2, g2⟩ := blk (HB.out _ hb2).2);refine bodyPost_ret (jS rfl _ _ (w.heap.size + 2) (.slice a2 X.1.lines.length c2) (.int .i64 X.1.anc.line) (.int .i64 X.1.anc.col) (.int .i64 X.1.foc.line) (.int .i64 X.1.foc.col) (.int .i64 X.1.on) (.int .i64 X.1.off) (.int .i64 X.2) rfl rfl zCY) rfl ?_;have hfin := H1.out.trans (hb2.mono hs1);have hv2 := HV2.out;exact ⟨_, rfl, (SliceR.stable (qB _) hv2 zAQ (fun b h _ => jL)), by ((with_reducible repeat' first | exact zE _ _ | assumption | refine Below.alloc ?_ ?_ _ | refine Below.drew ?_ | refine jQ ?_ | refine Below.setCell ?_ ?_ _) <;> go_size)⟩
set_option maxRecDepth 100000 in
theorem zIl (v : Value) (s : St) (w : World) (S : Nat → Prop) (h : jD w S v s.lines) (he : EnvT w) (hs : Small s.lines) (hf : Fits s.lines) :
  Calls zV 81 #[stV v s] w (StSaid (xI s (zBm s)) w) := by
 obtain ⟨W1, hW1, hB, hz, k0, k2⟩ := xU w v s;have HB : Hid (∀ W, Below W1.heap.size W1 W → W.heap[w.heap.size]? = some (.cells #[v, .int .i64 s.anc.line, .int .i64 s.anc.col, .int .i64 s.foc.line, .int .i64 s.foc.col, .int .i64 s.on, .int .i64 s.off] 26) ∧ W.heap[w.heap.size + 1]? = some (.cells #[.slice none 0 0, .int .i64 0, .int .i64 0, .int .i64 0, .int .i64 0, .int .i64 0, .int .i64 0] 26)) := zA fun W hW => ⟨zY hW k0, zY hW k2⟩;have hs1 := hB.size;have H1 := zA hB
 have HC := zA (zCj v s 161 #[] (zBm s) W1 S (h.below (qB _) hB) (he.below hB) hs (enters_of Tryz.func161 zT rfl)
  (fun _ W hW => zHU v s.lines (qV s).1 (qV s).2 W S (h.below (qB _) (hB.trans (hW.mono hs1))) ((he.below hB).below hW) hs hf))
 obtain ⟨X, hX⟩ : ∃ X, xI s (zBm s) = X := ⟨_, rfl⟩;rw [hX] at HC ⊢;obtain ⟨p0, f0⟩ := blk k0;obtain ⟨p2, f2⟩ := blk k2;obtain ⟨va, vc, rfl⟩ := h.slice;clear h he hs hf hX k0 k2 hB;go_enter Tryz.func81, Tryz.ntmps81;go_wp2_with (go_at_call 156; refine HC.out.mono ?_; intro e w2 hsaid; obtain ⟨v2, rfl, hv2, hb2⟩ := hsaid; obtain ⟨a2, c2, rfl⟩ := hv2.slice; have HV2 := zA hv2; clear hv2; obtain ⟨q2, g2⟩ := blk (HB.out _ hb2).2);refine bodyPost_ret (jS rfl _ _ (w.heap.size + 1) (.slice a2 X.1.lines.length c2) (.int .i64 X.1.anc.line) (.int .i64 X.1.anc.col) (.int .i64 X.1.foc.line) (.int .i64 X.1.foc.col) (.int .i64 X.1.on) (.int .i64 X.1.off) (.int .i64 X.2) rfl rfl zCY) rfl ?_;have hfin := H1.out.trans (hb2.mono hs1);have hv2 := HV2.out;exact ⟨_, rfl, (SliceR.stable (qB _) hv2 zAQ (fun b h _ => jL)), by ((with_reducible repeat' first | exact zE _ _ | assumption | refine Below.alloc ?_ ?_ _ | refine Below.drew ?_ | refine jQ ?_ | refine Below.setCell ?_ ?_ _) <;> go_size)⟩
end Go.Proofs.YtcliojeoindceaaGreatDoor
