/- Parts of the proof. -/
import Derived.Test.YtcliojeoindceaaGreatDoorDocEachY
import Derived.Test.YtcliojeoindceaaGreatDoorDocDeleteY
import Derived.Test.YtcliojeoindceaaGreatDoorLaidY
import Derived.Deep.RegionHeld3
import Derived.Deep.DrawnRows
import Derived.Test.YtcliojeoindceaaGreatDoorAttrWalkY
import Derived.Deep.Cut
import Derived.Deep.CutRange
set_option linter.unusedVariables false
set_option linter.unusedSimpArgs false
set_option maxHeartbeats 8000000
namespace Go.Proofs.YtcliojeoindceaaGreatDoor
open Go.RowKit
open Go.Proofs.Qw
open _root_.Go.Lib renaming hid → zA
open _root_.Go.Proofs.Tryz renaming prog → zV
open _root_.Go.Proofs.Qw renaming jW → qB
theorem DocSaid.from {x : Doc × Int} {w W : World} {e : Ending} {w' : World} (h : DocSaid x W e w') (hb : Below w.heap.size w W) : DocSaid x w e w' := by
 obtain ⟨v', h1, h2, h3⟩ := h;exact ⟨v', h1, SliceR.stable (qB true) h2 (Keeps.refl _ _) (fun b h _ => Nat.le_trans hb.size h), jG hb h3⟩
theorem zGO {F : Cel → Cel} {cs : List Cel} {i j : Nat} (hij : i ≤ j) (hj : j ≤ cs.length) : xM F cs i j = (jX F i j cs, 0) := by
 unfold xM uO;rw [if_pos jB]
 simp
theorem zJC (v : Value) (cs : List Cel) (i j s c : Int) (b1 b2 : Nat) (w : World) (S : Nat → Prop) (own : Bool) (h : jE own w S v cs) (hs : cs.length ≤ 1000000) (h1 : w.heap[b1]? = some (.cells #[.int .i64 s] 3)) (h2 : w.heap[b2]? = some (.cells #[.int .i64 c] 3)) :
  Calls zV 249 #[v, .int .i64 i, .int .i64 j, .pointer (some ⟨b1, 0, none⟩), .pointer (some ⟨b2, 0, none⟩)] w (CellsSaid (xM (yR s c) cs i j).1 (xM (yR s c) cs i j).2 w) := by
 have HC := zA (zIO v cs i j s c w S own h hs);obtain ⟨a, cc, rfl⟩ := h.slice;obtain ⟨p1, f1⟩ := blk h1;obtain ⟨p2, f2⟩ := blk h2
 generalize xM (yR s c) cs i j = r at *
 clear h h1 h2;go_enter Tryz.func249, Tryz.ntmps249;go_wp2_with (go_at_call 250; refine HC.out.mono ?_; intro e w2 hsaid; obtain ⟨v', rfl, hv', hb'⟩ := hsaid);go_ret2;exact ⟨_, rfl, hv', hb'⟩
theorem zIJ (v : Value) (cs : List Cel) (i j : Int) (hr : List UInt8) (b1 : Nat) (w : World) (S : Nat → Prop) (own : Bool) (h : jE own w S v cs) (hs : cs.length ≤ 1000000) (he : EnvT w) (hh : hr.length ≤ 1000000) (h1 : w.heap[b1]? = some (.cells #[.string ⟨hr.toArray⟩] 9)) :
  Calls zV 247 #[v, .int .i64 i, .int .i64 j, .pointer (some ⟨b1, 0, none⟩)] w (CellsSaid (zAh hr cs i j).1 (zAh hr cs i j).2 w) := by
 have HC := zA (zIc v cs i j hr w S own h hs he hh);obtain ⟨a, cc, rfl⟩ := h.slice;obtain ⟨p1, f1⟩ := blk h1
 generalize zAh hr cs i j = r at *
 clear h h1 he hh;go_enter Tryz.func247, Tryz.ntmps247;go_wp2_with (go_at_call 248; refine HC.out.mono ?_; intro e w2 hsaid; obtain ⟨v', rfl, hv', hb'⟩ := hsaid);go_ret2;exact ⟨_, rfl, hv', hb'⟩
def setD (s c : Int) (d : Doc) (a b : Ps) : Doc × Int := xG (fun cs i j => jX (yR s c) i j cs) d a b
set_option maxRecDepth 100000 in
theorem zFR (v : Value) (d : Doc) (a b : Ps) (s c : Int) (w : World) (S : Nat → Prop) (h : jD w S v d) (he : EnvT w) (hs : Small d) (hf : Fits d) :
  Calls zV 162 #[v, posV a, posV b, .int .i64 s, .int .i64 c] w (DocSaid (setD s c d a b) w) := by
 obtain ⟨W1, hW1⟩ : ∃ W1, (((w.alloc (.cells #[.int .i64 a.line, .int .i64 a.col] 24)).alloc (.cells #[.int .i64 b.line, .int .i64 b.col] 24)).alloc (.cells #[.int .i64 s] 3)).alloc (.cells #[.int .i64 c] 3) = W1 := ⟨_, rfl⟩;have hB : Below w.heap.size w W1 := hW1 ▸ ((((Below.refl _ _).alloc (Nat.le_refl _) _).alloc qF _).alloc jB _).alloc jB _;have k0 : W1.heap[w.heap.size]? = some (.cells #[.int .i64 a.line, .int .i64 a.col] 24) := hW1 ▸ jK _ _ (jK _ _ (jK _ _ (jF _ _ rfl)));have k1 : W1.heap[w.heap.size + 1]? = some (.cells #[.int .i64 b.line, .int .i64 b.col] 24) := hW1 ▸ jK _ _ (jK _ _ (jF _ _ qF));have k2 : W1.heap[w.heap.size + 2]? = some (.cells #[.int .i64 s] 3) := hW1 ▸ jK _ _ (jF _ _ qF);have k3 : W1.heap[w.heap.size + 3]? = some (.cells #[.int .i64 c] 3) := hW1 ▸ jF _ _ qF
 have HC := zA (zFs v d a b 249 #[.pointer (some ⟨w.heap.size + 2, 0, none⟩), .pointer (some ⟨w.heap.size + 3, 0, none⟩)] (fun cs i j => jX (yR s c) i j cs) W1 S (h.below (qB _) hB) (he.below hB) hs hf (fun c i j => zAT _ _ _ _)
  (enters_of Tryz.func249 zT rfl) (fun W v cs i j hW hv hij hj hl => by
   have := zJC v cs i j s c (w.heap.size + 2) (w.heap.size + 3) W _ true hv hl (jI hW k2) (jI hW k3);rw [zGO hij hj] at this;exact this))
 have HP : Hid (∀ p : Ps, posV p = .agg #[.int .i64 p.line, .int .i64 p.col]) := zA fun _ => rfl;have HR : Hid (setD s c d a b = xG (fun cs i j => jX (yR s c) i j cs) d a b) := zA rfl;have H1 := zA hB;obtain ⟨p1, f1⟩ := blk k0;obtain ⟨p2, f2⟩ := blk k1;obtain ⟨va, vc, rfl⟩ := h.slice
 generalize xG (fun cs i j => jX (yR s c) i j cs) d a b = r at *
 clear h he hs hf k0 k1 k2 k3 hB;rw [HP.out a, HP.out b] at HC ⊢;go_enter Tryz.func162, Tryz.ntmps162;go_wp2_with (go_at_call 246; refine HC.out.mono ?_; intro e w2 hsaid; have hsaid := DocSaid.from hsaid H1.out; obtain ⟨v', rfl, hv', hb'⟩ := hsaid);go_ret2;rw [HR.out];exact ⟨_, rfl, hv', hb'⟩
def vM (hr : List UInt8) (d : Doc) (a b : Ps) : Doc × Int := if xD hr = true then xG (fun cs i j => jX (yJ hr) i j cs) d a b else ([], 1)
set_option maxRecDepth 100000 in
theorem zFr (v : Value) (d : Doc) (a b : Ps) (hr : List UInt8) (w : World) (S : Nat → Prop) (h : jD w S v d) (he : EnvT w) (hs : Small d) (hf : Fits d) (hh : hr.length ≤ 1000000) :
  Calls zV 159 #[v, posV a, posV b, .string ⟨hr.toArray⟩] w (DocSaid (vM hr d a b) w) := by
 obtain ⟨W1, hW1, hB, hz, k0, k1, k2⟩ := zDt w (.int .i64 a.line) (.int .i64 a.col) (.int .i64 b.line) (.int .i64 b.col) (.string ⟨hr.toArray⟩) 9;have HB : Hid (∀ W, Below W1.heap.size W1 W → W.heap[w.heap.size]? = some (.cells #[.int .i64 a.line, .int .i64 a.col] 24) ∧ W.heap[w.heap.size + 1]? = some (.cells #[.int .i64 b.line, .int .i64 b.col] 24)) := zA fun W hW => ⟨jI hW k0, jI hW k1⟩;have HT : Hid (Calls zV 158 #[.string ⟨hr.toArray⟩] W1 fun e w' => e = .returned (.bool (yQ hr)) ∧ Below W1.heap.size W1 w') := zA (zDC ⟨hr.toArray⟩ W1 (he.below hB) zEw)
 have HC : Hid (xD hr = true → ∀ W, Below W1.heap.size W1 W → Calls zV 246 #[v, posV a, posV b, .func (.func 247) #[] #[.pointer (some ⟨w.heap.size + 2, 0, none⟩)]] W (DocSaid (xG (fun cs i j => jX (yJ hr) i j cs) d a b) W)) := zA fun hlk W hW =>
  zFs v d a b 247 #[.pointer (some ⟨w.heap.size + 2, 0, none⟩)] (fun cs i j => jX (yJ hr) i j cs) W S ((h.below (qB _) hB).below (qB _) hW) ((he.below hB).below hW) hs hf (fun c i j => zAT _ _ _ _)
   (enters_of Tryz.func247 zT rfl) (fun X v cs i j hX hv hij hj hl => by
    have := zIJ v cs i j hr (w.heap.size + 2) X _ true hv hl (((he.below hB).below hW).below hX) hh (jI hX (jI hW k2));unfold zAh at this;rw [if_pos hlk, zGO hij hj] at this;exact this)
 have HP : Hid (∀ p : Ps, posV p = .agg #[.int .i64 p.line, .int .i64 p.col]) := zA fun _ => rfl;have HR : Hid (vM hr d a b = if xD hr = true then xG (fun cs i j => jX (yJ hr) i j cs) d a b else ([], 1)) := zA rfl;have HL : Hid (xD hr = (decide (hr = []) || yQ hr)) := zA rfl;have H1 := zA hB;have hs1 := hB.size;have hw1 : Below W1.heap.size W1 W1 := Below.refl _ _;obtain ⟨p1, f1⟩ := blk k0;obtain ⟨p2, f2⟩ := blk k1;obtain ⟨p3, f3⟩ := blk k2;obtain ⟨va, vc, rfl⟩ := h.slice
 generalize xG (fun cs i j => jX (yJ hr) i j cs) d a b = r at *
 clear h he hs hf k0 k1 k2 hB hh;rw [HP.out a, HP.out b] at HC ⊢
 by_cases hn : hr = []
 ·have HC := zA (HC.out (by rw [HL.out, decide_eq_true hn]; rfl))
  have HR : Hid (vM hr d a b = r) := zA (HR.out.trans (if_pos (by rw [HL.out, decide_eq_true hn]; rfl)));have hne : hr.isEmpty = true := by simpa using hn
  clear hn;go_enter Tryz.func159, Tryz.ntmps159;go_wp2_with (go_at_call 246; refine (HC.out _ hw1).mono ?_; intro e w2 hsaid; have hsaid := DocSaid.from hsaid H1.out; obtain ⟨v', rfl, hv', hb'⟩ := hsaid);go_ret2;rw [HR.out];exact ⟨_, rfl, hv', hb'⟩
 ·have hne : hr.isEmpty = false := by simpa using hn
  cases htg : yQ hr
  ·have HR : Hid (vM hr d a b = ([], 1)) := zA (HR.out.trans (if_neg (by rw [HL.out, decide_eq_false hn, htg]; simp)))
   rw [htg] at HT;clear htg;go_enter Tryz.func159, Tryz.ntmps159;go_wp2_with (go_at_call 158; refine HT.out.mono ?_; rintro e w2 ⟨rfl, hb2⟩);go_ret2;unfold DocSaid;rw [HR.out];exact ⟨_, rfl, SliceR.nil _ _ _ _ _ _, H1.out.trans (hb2.mono hs1)⟩
  ·have hlk : xD hr = true := by rw [HL.out, htg]; simp
   have HC := zA (HC.out hlk);have HR : Hid (vM hr d a b = r) := zA (HR.out.trans (if_pos hlk));rw [htg] at HT;clear htg hlk;go_enter Tryz.func159, Tryz.ntmps159;go_wp2_with (first | (go_at_call 158; refine HT.out.mono ?_; rintro e w2 ⟨rfl, hb2⟩; obtain ⟨q1, g1⟩ := blk (HB.out _ hb2).1; obtain ⟨q2, g2⟩ := blk (HB.out _ hb2).2) | (go_at_call 246; refine (HC.out _ hb2).mono ?_; intro e w3 hsaid; have hsaid := DocSaid.from hsaid (H1.out.trans (hb2.mono hs1)); obtain ⟨v', rfl, hv', hb'⟩ := hsaid));go_ret2;rw [HR.out];exact ⟨_, rfl, hv', hb'⟩
end Go.Proofs.YtcliojeoindceaaGreatDoor
namespace Go.Proofs.Qw
open Go.RowKit Go.Proofs.YtcliojeoindceaaGreatDoor
structure St where
 lines : Doc
 anc : Ps
 foc : Ps
 on : Int
 off : Int
 deriving DecidableEq, Inhabited
def noS : St := ⟨[], ⟨0, 0⟩, ⟨0, 0⟩, 0, 0⟩
def mayS (s : St) : Bool := mayD s.lines && (isD s.lines s.anc && (isD s.lines s.foc && (bits .andNot .i64 s.on 15 == 0 && (bits .andNot .i64 s.off 15 == 0 && bits .and .i64 s.on s.off == 0))))
def qV (s : St) : Ps × Ps := if 0 < cmpP s.anc s.foc then (s.foc, s.anc) else (s.anc, s.foc)
abbrev stV (v : Value) (s : St) : Value := .agg #[v, .int .i64 s.anc.line, .int .i64 s.anc.col, .int .i64 s.foc.line, .int .i64 s.foc.col, .int .i64 s.on, .int .i64 s.off]
theorem vJ (w : World) (v : Value) (s : St) : ∃ W1, w.alloc (.cells #[v, .int .i64 s.anc.line, .int .i64 s.anc.col, .int .i64 s.foc.line, .int .i64 s.foc.col, .int .i64 s.on, .int .i64 s.off] 26) = W1 ∧ Below w.heap.size w W1 ∧ w.heap.size + 1 = W1.heap.size ∧
  W1.heap[w.heap.size]? = some (.cells #[v, .int .i64 s.anc.line, .int .i64 s.anc.col, .int .i64 s.foc.line, .int .i64 s.foc.col, .int .i64 s.on, .int .i64 s.off] 26) :=
 ⟨_, rfl, (Below.refl _ _).alloc (Nat.le_refl _) _, by simp, jF _ _ rfl⟩
def StSaid (x : St × Int) (w : World) (e : Ending) (w' : World) : Prop := ∃ v', e = .returned (.tuple #[stV v' x.1, .int .i64 x.2]) ∧ DocR true w' (fun b => w.heap.size ≤ b) v' x.1.lines ∧ Below w.heap.size w w'
theorem StSaid.from {x : St × Int} {w W : World} {e : Ending} {w' : World} (h : StSaid x W e w') (hb : Below w.heap.size w W) : StSaid x w e w' := by
 obtain ⟨v', h1, h2, h3⟩ := h;exact ⟨v', h1, SliceR.stable (jW true) h2 (Keeps.refl _ _) (fun b h _ => Nat.le_trans hb.size h), jG hb h3⟩
theorem yP {w W : World} (h : Below w.heap.size w W) (X : Obj) : Below w.heap.size w (W.alloc X) := h.alloc h.size X
theorem zAf {w W : World} (h : Below w.heap.size w W) (X Y : Obj) : Below w.heap.size w ((W.alloc X).alloc Y) := yP (yP h X) Y
theorem zBY {w W : World} (h : Below w.heap.size w W) (X Y Z : Obj) : Below w.heap.size w (((W.alloc X).alloc Y).alloc Z) := yP (zAf h X Y) Z
theorem on1 {w : World} {B : Nat} {cs : Array Value} {t : TypeId} (h : w.heap[B]? = some (.cells cs t)) : ∀ X k, (w.alloc X).cell? ⟨B, k, none⟩ = cs[k]? := fun X _ => jT (jK _ X h)
theorem on2 {w : World} {B : Nat} {cs : Array Value} {t : TypeId} (h : w.heap[B]? = some (.cells cs t)) : ∀ X Y k, ((w.alloc X).alloc Y).cell? ⟨B, k, none⟩ = cs[k]? := fun X Y _ => jT (jK _ Y (jK _ X h))
theorem zHi (a b : Ps) : (0 < cmpP a b) = (cmpP b a < 0) := by
 obtain ⟨a, c⟩ := a;obtain ⟨b, d⟩ := b;simp only [cmpP, cmpI, eq_iff_iff, ne_eq]
 split <;> split <;> (try split) <;> (try split) <;> (try split) <;> (try split) <;> simp_all <;> omega
theorem zKF (x : Int) (hx : -9223372036854775808 ≤ x ∧ x ≤ 9223372036854775807) : (bits .andNot .i64 x 15 == 0) = (decide (0 ≤ x) && decide (x ≤ 15)) := by
 by_cases h : 0 ≤ x ∧ x ≤ 15
 ·obtain ⟨n, rfl⟩ := Int.eq_ofNat_of_zero_le h.1
  have H : ∀ n : Fin 16, (bits .andNot .i64 (n.val : Int) 15 == 0) = true := by decide +kernel
  have h1 := H ⟨n, by omega⟩;simp only at h1;rw [h1, decide_eq_true h.1, decide_eq_true h.2]
  rfl
 ·have hne : bits .andNot .i64 x 15 ≠ 0 := by
   intro e;unfold bits at e;simp only at e
   have hz : (BitVec.ofInt 64 x &&& ~~~BitVec.ofInt 64 15).toNat = 0 := by
    have hlt := (BitVec.ofInt 64 x &&& ~~~BitVec.ofInt 64 15).isLt;have e' : IntKind.i64.wrap ((BitVec.ofInt 64 x &&& ~~~BitVec.ofInt 64 15).toNat : Int) = 0 := e
    generalize (BitVec.ofInt 64 x &&& ~~~BitVec.ofInt 64 15).toNat = m at e' hlt
    have e2 : (if (true && decide ((m : Int) % 2 ^ 64 ≥ 2 ^ 63)) = true then (m : Int) % 2 ^ 64 - 2 ^ 64 else (m : Int) % 2 ^ 64) = 0 := e';simp only [Bool.true_and, decide_eq_true_eq] at e2
    split at e2 <;> omega
   have hz2 : BitVec.ofInt 64 x &&& ~~~BitVec.ofInt 64 15 = 0#64 := BitVec.eq_of_toNat_eq (by simpa using hz)
   have h3 : BitVec.ofInt 64 x = BitVec.ofInt 64 x &&& BitVec.ofInt 64 15 := by
    clear hz e
    generalize BitVec.ofInt 64 15 = c at *
    apply BitVec.eq_of_getLsbD_eq;intro i hi;have := congrArg (fun v => v.getLsbD i) hz2;simp [hi] at this;simp only [BitVec.getLsbD_and];cases ha : (BitVec.ofInt 64 x).getLsbD i
    ·rfl
    ·simp [ha] at this ⊢
     exact this
   have h4 : (BitVec.ofInt 64 x).toNat ≤ 15 := by
    rw [h3, BitVec.toNat_and];exact Nat.le_trans Nat.and_le_right qW
   rw [BitVec.toNat_ofInt] at h4
   omega
  rw [beq_eq_false_iff_ne.2 hne]
  by_cases h0 : 0 ≤ x
  ·rw [decide_eq_true h0, decide_eq_false (fun h1 => h ⟨h0, h1⟩)]; rfl
  ·rw [decide_eq_false h0]; rfl
end Go.Proofs.Qw
namespace Go.Proofs.YtcliojeoindceaaGreatDoor
open Go.RowKit
open Go.Proofs.Qw
theorem zBC {fn : Func} {p u : Tmp} (h : fn.results = #[.cell p 24, .cell u 24]) (tmps : Array Value) (w : World) (B C : Nat) (a b c d : Value) (hp : tmps.getD p undef = .pointer (some ⟨B, 0, none⟩)) (hu : tmps.getD u undef = .pointer (some ⟨C, 0, none⟩))
  (h1 : w.heap[B]? = some (.cells #[a, b] 24)) (h2 : w.heap[C]? = some (.cells #[c, d] 24)) : (results fn tmps).run Tryz.prog w = .ok (.tuple #[.agg #[a, b], .agg #[c, d]]) w := by
 have hp' : tmps[p]?.getD undef = .pointer (some ⟨B, 0, none⟩) := by simpa using hp
 have hu' : tmps[u]?.getD undef = .pointer (some ⟨C, 0, none⟩) := by simpa using hu
 have e1 := run_loadVar_row (P := Tryz.prog) w B 24 24 _ _ _ h1 Tryz.underlying24 rfl zT;have e2 := run_loadVar_row (P := Tryz.prog) w C 24 24 _ _ _ h2 Tryz.underlying24 rfl zT;simp [results, h, hp', hu', asAddr, e1, e2]
theorem zFC {fn : Func} {p : Tmp} (h : fn.results = #[.cell p 26]) (tmps : Array Value) (w : World) (B : Nat) (a b c d e f g : Value) (hp : tmps.getD p undef = .pointer (some ⟨B, 0, none⟩)) (hg : w.heap[B]? = some (.cells #[a, b, c, d, e, f, g] 26)) :
  (results fn tmps).run Tryz.prog w = .ok (.agg #[a, b, c, d, e, f, g]) w :=
 results_cell_row h tmps w B _ _ _ _ hp hg Tryz.underlying26 rfl zT
theorem zEe (w : World) (v : Value) (s : St) : ∃ W1, ((w.alloc (.cells #[v, .int .i64 s.anc.line, .int .i64 s.anc.col, .int .i64 s.foc.line, .int .i64 s.foc.col, .int .i64 s.on, .int .i64 s.off] 26)).alloc (.cells #[.int .i64 0, .int .i64 0] 24)).alloc (.cells #[.int .i64 0, .int .i64 0] 24) = W1 ∧ Below w.heap.size w W1 ∧ w.heap.size + 3 = W1.heap.size ∧
  W1.heap[w.heap.size]? = some (.cells #[v, .int .i64 s.anc.line, .int .i64 s.anc.col, .int .i64 s.foc.line, .int .i64 s.foc.col, .int .i64 s.on, .int .i64 s.off] 26) ∧ W1.heap[w.heap.size + 1]? = some (.cells #[.int .i64 0, .int .i64 0] 24) ∧ W1.heap[w.heap.size + 2]? = some (.cells #[.int .i64 0, .int .i64 0] 24) :=
 ⟨_, rfl, (((Below.refl _ _).alloc (Nat.le_refl _) _).alloc qF _).alloc jB _, by simp, jK _ _ (jK _ _ (jF _ _ rfl)), jK _ _ (jF _ _ qF), jF _ _ qF⟩
theorem xU (w : World) (v : Value) (s : St) : ∃ W1, (w.alloc (.cells #[v, .int .i64 s.anc.line, .int .i64 s.anc.col, .int .i64 s.foc.line, .int .i64 s.foc.col, .int .i64 s.on, .int .i64 s.off] 26)).alloc (.cells #[.slice none 0 0, .int .i64 0, .int .i64 0, .int .i64 0, .int .i64 0, .int .i64 0, .int .i64 0] 26) = W1 ∧ Below w.heap.size w W1 ∧ w.heap.size + 2 = W1.heap.size ∧
  W1.heap[w.heap.size]? = some (.cells #[v, .int .i64 s.anc.line, .int .i64 s.anc.col, .int .i64 s.foc.line, .int .i64 s.foc.col, .int .i64 s.on, .int .i64 s.off] 26) ∧ W1.heap[w.heap.size + 1]? = some (.cells #[.slice none 0 0, .int .i64 0, .int .i64 0, .int .i64 0, .int .i64 0, .int .i64 0, .int .i64 0] 26) :=
 ⟨_, rfl, ((Below.refl _ _).alloc (Nat.le_refl _) _).alloc qF _, by simp, jK _ _ (jF _ _ rfl), jF _ _ qF⟩
end Go.Proofs.YtcliojeoindceaaGreatDoor
namespace Go.Proofs.YtcliojeoindceaaGreatDoor
open Go.ChangeShapes Go.WideShapes Go.ChangeAt Go.RowKit
open Go.Proofs.Qw Go.Deep
open _root_.Go.Proofs.Tryz renaming prog → zV
section
variable {H : Type} {enc : TypeId × Value → H} {w : World} {base : Nat} {held : Bool}
def InI (x : Int) : Prop := -9223372036854775808 ≤ x ∧ x ≤ 9223372036854775807
set_option maxRecDepth 100000 in
theorem zHb {n : Nat} {sp : Nat → Bool} {cs : List Value} {y : DataW H × List MemPlace} (h : DataW.trod enc zV w base sp held n 24 cs = some y) : ∃ x : Ps, cs = [.int .i64 x.line, .int .i64 x.col] := by
 obtain ⟨xs, m, _, _, hl, hxs, hf⟩ := DataW.trod_struct Tryz.underlying24 h;have h0 := hf 0 _ rfl;have h1 := hf 1 _ rfl;rw [show Tryz.prog.cellsOf 24 = 2 by kernel_rfl] at hl
 match cs, hl with
 | [a, b], _ =>
  match xs, hxs with
  | [x0, x1], _ =>
   obtain ⟨q, e0, _, _⟩ := DataW.trod_int Tryz.underlying3 h0;obtain ⟨r, e1, _, _⟩ := DataW.trod_int Tryz.underlying3 h1;have e0 : [a] = [Value.int .i64 q] := e0;have e1 : [b] = [Value.int .i64 r] := e1;cases e0;cases e1;exact ⟨⟨q, r⟩, rfl⟩
set_option maxRecDepth 100000 in
theorem zLb {n : Nat} {cs : List Value} {y : DataW H × List MemPlace} (h : DataW.trod enc zV w base (fun _ => true) held n 22 cs = some y) (hw : ∀ n ∈ y.1.weights zV 22, n ≤ reachBytes) :
  ∃ (v : Value) (x : Doc), cs = [v] ∧ jD w (fun _ => True) v x ∧ Sane x := by
 obtain ⟨v', xs, e, hs, hx⟩ := zCE (t0 := 60) (k := 4) (R := uH false) (LinD zV 60) Tryz.underlying22 zT qW h (fun n cs y h => zMj h);refine ⟨v', xs, e, hs, fun l hl => ?_⟩;obtain ⟨i, hi⟩ := List.getElem?_of_mem hl;rcases hx with ⟨_, rfl⟩ | ⟨el, spr, hd, _, hel⟩
 ·cases hl
 ·obtain ⟨dd, g1, g2⟩ := hel i l hi
  rw [hd] at hw
  exact g2 fun n hn => hw n (by
   rw [DataW.weights, Tryz.underlying22];exact List.mem_cons_of_mem _ (List.mem_append_left _ (zDh hn (List.mem_of_getElem? g1))))
set_option maxRecDepth 100000 in
theorem zKh {v : Value} {d : DataW H} {ps : List MemPlace} (hv : ∃ cs, v = .agg cs ∧ cs.size = Tryz.prog.cellsOf 26) (h : DataW.Trod enc zV w base (fun _ => true) held 26 v d ps) (hw : ∀ n ∈ d.weights zV 26, n ≤ reachBytes) :
  ∃ (u : Value) (s : St), v = stV u s ∧ jD w (fun _ => True) u s.lines ∧ Sane s.lines ∧ InI s.on ∧ InI s.off := by
 obtain ⟨cs, rfl, hsz⟩ := hv;obtain ⟨fuel, hf⟩ := h;obtain ⟨xs, m, _, hd, hl, hxs, hff⟩ := DataW.trod_struct Tryz.underlying26 hf;have h0 := hff 0 _ rfl;have h1 := hff 1 _ rfl;have h2 := hff 2 _ rfl;have h3 := hff 3 _ rfl;have h4 := hff 4 _ rfl;rw [show Tryz.prog.cellsOf 26 = 7 by kernel_rfl] at hsz;obtain ⟨l⟩ := cs
 match l, hsz with
 | [a, b, c, p, e, f, g], _ =>
  match xs, hxs with
  | [x0, x1, x2, x3, x4], _ =>
   have hd : d = .agg [x0.1, x1.1, x2.1, x3.1, x4.1] := (Prod.ext_iff.1 hd).1
   obtain ⟨u, ls, e0, hls, hsn⟩ := zLb h0 (fun n hn => hw n (by
    rw [hd];simp only [DataW.weights, Tryz.underlying26];simp [DataW.weightsEach, hn]))
   obtain ⟨pa, e1⟩ := zHb h1;obtain ⟨pf, e2⟩ := zHb h2;obtain ⟨q, e3, _, wq⟩ := DataW.trod_int Tryz.underlying3 h3;obtain ⟨r, e4, _, wr⟩ := DataW.trod_int Tryz.underlying3 h4;have e0 : [a] = [u] := e0;have e1 : [b, c] = [Value.int .i64 pa.line, Value.int .i64 pa.col] := e1;have e2 : [p, e] = [Value.int .i64 pf.line, Value.int .i64 pf.col] := e2;have e3 : [f] = [Value.int .i64 q] := e3;have e4 : [g] = [Value.int .i64 r] := e4;cases e0;cases e1;cases e2;cases e3;cases e4;exact ⟨_, ⟨ls, pa, pf, q, r⟩, rfl, hls, hsn, bounds_i64 wq, bounds_i64 wr⟩
end
section
variable {H : Type} {enc : TypeId × Value → H} {w : World} {base : Nat} {held : Bool}
theorem zLa {v : Value} {d : DataW H} {ps : List MemPlace} (hv : ∃ a n c, v = .slice a n c) (h : DataW.Trod enc zV w base (fun _ => true) held 52 v d ps) : ∃ x : List Int, jJ false w (fun _ => True) v x := by
 obtain ⟨fuel, hf⟩ := h
 obtain ⟨v', xs, e, hs, _⟩ := zCE (t0 := 3) (k := 1) (R := rdOf yZ) (fun _ _ => True) Tryz.underlying52 zT Nat.one_pos hf (fun n cs y h => by
  obtain ⟨z, rfl, _, _⟩ := DataW.trod_int Tryz.underlying3 h;exact ⟨z, rfl, trivial⟩)
 have : v = v' := by
  obtain ⟨a, n, c, rfl⟩ := hv;have e : [Value.slice a n c] = [v'] := e;cases e
  rfl
 exact ⟨xs, this ▸ hs⟩
end
end Go.Proofs.YtcliojeoindceaaGreatDoor
namespace Go.Proofs.YtcliojeoindceaaGreatDoor
open Go.RowKit
open Go.Proofs.Qw
attribute [local go_sem] Oper.semAt_some
open _root_.Go.Lib renaming hid → zA
open _root_.Go.Proofs.Tryz renaming prog → zV
def zGd (d : Doc) (ts : List ByteArray) (w : World) (e : Ending) (w' : World) : Prop := ∃ r, e = .returned (.bool r) ∧ (r = false → Sml d ∧ ∀ t ∈ ts, t.size ≤ 10000) ∧ Below w.heap.size w w'
set_option maxRecDepth 100000 in
theorem zKn (v : Value) (s : St) (ta : Option Addr) (ts : List ByteArray) (w : World) (S : Nat → Prop) (h : jD w S v s.lines) (sn : Sane s.lines) (hts : ts.length ≤ 10)
  (ht : ∀ i t, ts[i]? = some t → ∃ b o, ta = some ⟨b, o, none⟩ ∧ b < w.heap.size ∧ w.cell? ⟨b, o + i, none⟩ = some (.string t)) :
  Calls zV 10 #[stV v s, .slice ta ts.length ts.length] w (zGd s.lines ts w) := by
 obtain ⟨W1, hW1, hB, hz, k0⟩ := vJ w v s;have HB : Hid (∀ W, Below W1.heap.size W1 W → W.heap[w.heap.size]? = some (.cells #[v, .int .i64 s.anc.line, .int .i64 s.anc.col, .int .i64 s.foc.line, .int .i64 s.foc.col, .int .i64 s.on, .int .i64 s.off] 26)) := zA fun W hW => jI hW k0;have HC := zA fun W (hW : Below W1.heap.size W1 W) => zJl v s.lines W S ((h.below (jW _) hB).below (jW _) hW) sn;have H1 := zA hB;have hs1 := hB.size
 have HT : Hid (∀ W, Below w.heap.size w W → ∀ i t, ts[i]? = some t → ∃ b o, ta = some ⟨b, o, none⟩ ∧ W.cell? ⟨b, o + i, none⟩ = some (.string t)) := zA fun W hW i t hi => by
  obtain ⟨b, o, h1, h2, h3⟩ := ht i t hi;exact ⟨b, o, h1, (hW.cell (p := ⟨b, o + i, none⟩) h2).trans h3⟩
 obtain ⟨p0, f0⟩ := blk k0;obtain ⟨va, vc, rfl⟩ := h.slice;clear h sn k0 hB ht;go_enter Tryz.func10, Tryz.ntmps10;go_wp2_with fail;go_loopw [5] (fun i wr => ∃ j : Nat, j ≤ ts.length ∧ i = .int .i64 j ∧ wr = W1 ∧ Hid (∀ t ∈ ts.take j, t.size ≤ 10000)) (fun i _ => ts.length - (intOf i).toNat)
 case atStart => exact ⟨0, by omega, rfl, rfl, zA qF⟩
 case round =>
  obtain ⟨j, hj, rfl, rfl, HT0⟩ := hrel
  by_cases hlt : j < ts.length
  ·obtain ⟨t, hjt, _⟩ := jP ts j hlt
   obtain ⟨b, o, rfl, hc⟩ := HT.out _ H1.out j t hjt;have hlt' : (j : Int) < (ts.length : Int) := by omega
   have hj0 : (0 : Int) ≤ (j : Int) := Int.natCast_nonneg _;have HJ := zA hjt
   by_cases hsz : 10000 < t.size
   ·have hsz' : (10000 : Int) < (t.size : Int) := by omega
    clear hsz hjt;go_wp2_with fail;go_ret;exact ⟨true, rfl, (fun e => by cases e), H1.out⟩
   ·have hsz' : ¬ (10000 : Int) < (t.size : Int) := by omega
    have HSZ := zA hsz;clear hsz hjt;go_wp2_with fail;go_roundw
    case rel => exact ⟨j + 1, by omega, by go_num, trivial, zA (fun x hx => by
     rw [vP HJ.out] at hx;rcases List.mem_append.1 hx with hx | hx
     ·exact HT0.out x hx
     ·simp at hx; subst hx; have := HSZ.out; omega)⟩
    case measure => simp [intOf]; omega
  ·obtain rfl : j = ts.length := by omega
   go_wp2_with (go_at_call 33; refine (HC.out _ (Below.refl _ _)).mono ?_; rintro e w1 ⟨r, rfl, hr, hb⟩);go_ret;exact ⟨r, rfl, fun e => ⟨hr e, by have := HT0.out; rwa [List.take_length] at this⟩, H1.out.trans (hb.mono hs1)⟩
theorem zDU (f : Fn) (caps : Array Value) (w : World) : Calls zV 73 #[.func f #[] caps] w fun e w' => e = .returned (.func (.func 145) #[] #[.pointer (some ⟨w.heap.size, 0, none⟩)]) ∧ w' = w.alloc (.cells #[.func f #[] caps] 67) := by
 go_enter Tryz.func73, Tryz.ntmps73;go_wp2_with fail;go_ret;exact ⟨rfl, rfl⟩
theorem zJm (b : Int) (w : World) : Calls zV 78 #[.int .i64 b] w fun e w' => e = .returned (.func (.func 145) #[] #[.pointer (some ⟨w.heap.size + 1, 0, none⟩)]) ∧
  w' = (w.alloc (.cells #[.int .i64 b] 3)).alloc (.cells #[.func (.func 154) #[] #[.pointer (some ⟨w.heap.size, 0, none⟩)]] 67) := by
 go_enter Tryz.func78, Tryz.ntmps78;go_wp2_with (go_at_call 73; refine (zDU _ _ _).mono ?_; rintro e w2 ⟨rfl, rfl⟩);go_ret;exact ⟨by simp, rfl⟩
theorem zKV (b : Int) (w : World) : Calls zV 85 #[.int .i64 b] w fun e w' => e = .returned (.func (.func 145) #[] #[.pointer (some ⟨w.heap.size + 1, 0, none⟩)]) ∧
  w' = (w.alloc (.cells #[.int .i64 b] 3)).alloc (.cells #[.func (.func 168) #[] #[.pointer (some ⟨w.heap.size, 0, none⟩)]] 67) := by
 go_enter Tryz.func85, Tryz.ntmps85;go_wp2_with (go_at_call 73; refine (zDU _ _ _).mono ?_; rintro e w2 ⟨rfl, rfl⟩);go_ret;exact ⟨by simp, rfl⟩
def zAN (n : Nat) : List Value := [
 .func (.func 72) #[] #[],
 .func (.func 145) #[] #[.pointer (some ⟨n + 1, 0, none⟩)],
 .func (.func 145) #[] #[.pointer (some ⟨n + 2, 0, none⟩)],
 .func (.func 145) #[] #[.pointer (some ⟨n + 3, 0, none⟩)],
 .func (.func 145) #[] #[.pointer (some ⟨n + 4, 0, none⟩)],
 .func (.func 145) #[] #[.pointer (some ⟨n + 6, 0, none⟩)],
 .func (.func 145) #[] #[.pointer (some ⟨n + 8, 0, none⟩)],
 .func (.func 145) #[] #[.pointer (some ⟨n + 10, 0, none⟩)],
 .func (.func 145) #[] #[.pointer (some ⟨n + 12, 0, none⟩)],
 .func (.func 79) #[] #[],
 .func (.func 145) #[] #[.pointer (some ⟨n + 13, 0, none⟩)],
 .func (.func 145) #[] #[.pointer (some ⟨n + 14, 0, none⟩)],
 .func (.func 82) #[] #[],
 .func (.func 145) #[] #[.pointer (some ⟨n + 15, 0, none⟩)],
 .func (.func 145) #[] #[.pointer (some ⟨n + 16, 0, none⟩)],
 .func (.func 145) #[] #[.pointer (some ⟨n + 18, 0, none⟩)],
 .func (.func 145) #[] #[.pointer (some ⟨n + 20, 0, none⟩)]]
def tabV (n : Nat) : Array Value := #[.string ⟨#[105, 110, 115, 101, 114, 116, 84, 101, 120, 116]⟩, .string ⟨#[105, 110, 115, 101, 114, 116, 84, 101, 120, 116]⟩, .int .i64 1, .func (.func 72) #[] #[], .string ⟨#[105, 110, 115, 101, 114, 116, 76, 105, 110, 101, 66, 114, 101, 97, 107]⟩, .string ⟨#[105, 110, 115, 101, 114, 116, 76, 105, 110, 101, 66, 114, 101, 97, 107]⟩, .int .i64 0, .func (.func 145) #[] #[.pointer (some ⟨n + 1, 0, none⟩)], .string ⟨#[105, 110, 115, 101, 114, 116, 80, 97, 114, 97, 103, 114, 97, 112, 104]⟩, .string ⟨#[105, 110, 115, 101, 114, 116, 80, 97, 114, 97, 103, 114, 97, 112, 104]⟩, .int .i64 0, .func (.func 145) #[] #[.pointer (some ⟨n + 2, 0, none⟩)], .string ⟨#[100, 101, 108, 101, 116, 101]⟩, .string ⟨#[100, 101, 108, 101, 116, 101, 67, 111, 110, 116, 101, 110, 116, 66, 97, 99, 107, 119, 97, 114, 100]⟩, .int .i64 0, .func (.func 145) #[] #[.pointer (some ⟨n + 3, 0, none⟩)], .string ⟨#[102, 111, 114, 119, 97, 114, 100, 68, 101, 108, 101, 116, 101]⟩, .string ⟨#[100, 101, 108, 101, 116, 101, 67, 111, 110, 116, 101, 110, 116, 70, 111, 114, 119, 97, 114, 100]⟩, .int .i64 0, .func (.func 145) #[] #[.pointer (some ⟨n + 4, 0, none⟩)], .string ⟨#[98, 111, 108, 100]⟩, .string ⟨#[102, 111, 114, 109, 97, 116, 66, 111, 108, 100]⟩, .int .i64 0, .func (.func 145) #[] #[.pointer (some ⟨n + 6, 0, none⟩)], .string ⟨#[105, 116, 97, 108, 105, 99]⟩, .string ⟨#[102, 111, 114, 109, 97, 116, 73, 116, 97, 108, 105, 99]⟩, .int .i64 0, .func (.func 145) #[] #[.pointer (some ⟨n + 8, 0, none⟩)], .string ⟨#[117, 110, 100, 101, 114, 108, 105, 110, 101]⟩, .string ⟨#[102, 111, 114, 109, 97, 116, 85, 110, 100, 101, 114, 108, 105, 110, 101]⟩, .int .i64 0, .func (.func 145) #[] #[.pointer (some ⟨n + 10, 0, none⟩)], .string ⟨#[115, 116, 114, 105, 107, 101, 84, 104, 114, 111, 117, 103, 104]⟩, .string ⟨#[102, 111, 114, 109, 97, 116, 83, 116, 114, 105, 107, 101, 84, 104, 114, 111, 117, 103, 104]⟩, .int .i64 0, .func (.func 145) #[] #[.pointer (some ⟨n + 12, 0, none⟩)], .string ⟨#[99, 114, 101, 97, 116, 101, 76, 105, 110, 107]⟩, .string ⟨#[105, 110, 115, 101, 114, 116, 76, 105, 110, 107]⟩, .int .i64 1, .func (.func 79) #[] #[], .string ⟨#[117, 110, 108, 105, 110, 107]⟩, .string ⟨#[102, 111, 114, 109, 97, 116, 85, 110, 108, 105, 110, 107]⟩, .int .i64 0, .func (.func 145) #[] #[.pointer (some ⟨n + 13, 0, none⟩)], .string ⟨#[114, 101, 109, 111, 118, 101, 70, 111, 114, 109, 97, 116]⟩, .string ⟨#[102, 111, 114, 109, 97, 116, 82, 101, 109, 111, 118, 101]⟩, .int .i64 0, .func (.func 145) #[] #[.pointer (some ⟨n + 14, 0, none⟩)], .string ⟨#[102, 111, 114, 109, 97, 116, 66, 108, 111, 99, 107]⟩, .string ⟨#[102, 111, 114, 109, 97, 116, 66, 108, 111, 99, 107]⟩, .int .i64 1, .func (.func 82) #[] #[], .string ⟨#[105, 110, 100, 101, 110, 116]⟩, .string ⟨#[102, 111, 114, 109, 97, 116, 73, 110, 100, 101, 110, 116]⟩, .int .i64 0, .func (.func 145) #[] #[.pointer (some ⟨n + 15, 0, none⟩)], .string ⟨#[111, 117, 116, 100, 101, 110, 116]⟩, .string ⟨#[102, 111, 114, 109, 97, 116, 79, 117, 116, 100, 101, 110, 116]⟩, .int .i64 0, .func (.func 145) #[] #[.pointer (some ⟨n + 16, 0, none⟩)], .string ⟨#[105, 110, 115, 101, 114, 116, 85, 110, 111, 114, 100, 101, 114, 101, 100, 76, 105, 115, 116]⟩, .string ⟨#[105, 110, 115, 101, 114, 116, 85, 110, 111, 114, 100, 101, 114, 101, 100, 76, 105, 115, 116]⟩, .int .i64 0, .func (.func 145) #[] #[.pointer (some ⟨n + 18, 0, none⟩)], .string ⟨#[105, 110, 115, 101, 114, 116, 79, 114, 100, 101, 114, 101, 100, 76, 105, 115, 116]⟩, .string ⟨#[105, 110, 115, 101, 114, 116, 79, 114, 100, 101, 114, 101, 100, 76, 105, 115, 116]⟩, .int .i64 0, .func (.func 145) #[] #[.pointer (some ⟨n + 20, 0, none⟩)]]
def uX (n : Nat) : List Obj := [
 .cells #[.func (.func 74) #[] #[]] 67,
 .cells #[.func (.func 75) #[] #[]] 67,
 .cells #[.func (.func 76) #[] #[]] 67,
 .cells #[.func (.func 77) #[] #[]] 67,
 .cells #[.int .i64 1] 3,
 .cells #[.func (.func 154) #[] #[.pointer (some ⟨n + 5, 0, none⟩)]] 67,
 .cells #[.int .i64 2] 3,
 .cells #[.func (.func 154) #[] #[.pointer (some ⟨n + 7, 0, none⟩)]] 67,
 .cells #[.int .i64 4] 3,
 .cells #[.func (.func 154) #[] #[.pointer (some ⟨n + 9, 0, none⟩)]] 67,
 .cells #[.int .i64 8] 3,
 .cells #[.func (.func 154) #[] #[.pointer (some ⟨n + 11, 0, none⟩)]] 67,
 .cells #[.func (.func 80) #[] #[]] 67,
 .cells #[.func (.func 81) #[] #[]] 67,
 .cells #[.func (.func 83) #[] #[]] 67,
 .cells #[.func (.func 84) #[] #[]] 67,
 .cells #[.int .i64 0] 3,
 .cells #[.func (.func 168) #[] #[.pointer (some ⟨n + 17, 0, none⟩)]] 67,
 .cells #[.int .i64 1] 3,
 .cells #[.func (.func 168) #[] #[.pointer (some ⟨n + 19, 0, none⟩)]] 67]
structure TabAt (w W : World) (k : Nat) : Prop where
 below : Below w.heap.size w W
 size : W.heap.size = w.heap.size + (k + 1)
 tab : W.heap[w.heap.size]? = some (.cells Tryz.zeroCells65 65)
 objs : ∀ j o, j < k → (uX w.heap.size)[j]? = some o → W.heap[w.heap.size + (j + 1)]? = some o
theorem TabAt.snoc {w W : World} {k : Nat} (h : TabAt w W k) {o : Obj} (ho : (uX w.heap.size)[k]? = some o) : TabAt w (W.alloc o) (k + 1) :=
 ⟨h.below.alloc h.below.size _, by simp [h.size]; omega, jK _ _ h.tab, fun j o' hj hj' => by
  by_cases e : j = k
  ·subst e
   rw [ho] at hj';cases hj';exact jF _ _ h.size.symm
  ·exact jK _ _ (h.objs j o' qD hj')⟩
theorem zMM {w W : World} {k : Nat} (h : TabAt w W k) (f : Fn) (caps : Array Value) (ho : (uX w.heap.size)[k]? = some (.cells #[.func f #[] caps] 67)) :
  Calls zV 73 #[.func f #[] caps] W fun e w' => e = .returned (.func (.func 145) #[] #[.pointer (some ⟨w.heap.size + (k + 1), 0, none⟩)]) ∧ TabAt w w' (k + 1) :=
 (zDU f caps W).mono fun _ _ ⟨h1, h2⟩ => ⟨by rw [h1, h.size], h2 ▸ h.snoc ho⟩
theorem zKd {w W : World} {k : Nat} (h : TabAt w W k) (b : Int) (ho : (uX w.heap.size)[k]? = some (.cells #[.int .i64 b] 3)) (ho2 : (uX w.heap.size)[k + 1]? = some (.cells #[.func (.func 154) #[] #[.pointer (some ⟨w.heap.size + (k + 1), 0, none⟩)]] 67)) :
  Calls zV 78 #[.int .i64 b] W fun e w' => e = .returned (.func (.func 145) #[] #[.pointer (some ⟨w.heap.size + (k + 2), 0, none⟩)]) ∧ TabAt w w' (k + 2) :=
 (zJm b W).mono fun _ _ ⟨h1, h2⟩ => ⟨by rw [h1, h.size, Nat.add_assoc], by rw [h2, h.size]; exact (h.snoc ho).snoc ho2⟩
theorem zGF {w W : World} {k : Nat} (h : TabAt w W k) (b : Int) (ho : (uX w.heap.size)[k]? = some (.cells #[.int .i64 b] 3)) (ho2 : (uX w.heap.size)[k + 1]? = some (.cells #[.func (.func 168) #[] #[.pointer (some ⟨w.heap.size + (k + 1), 0, none⟩)]] 67)) :
  Calls zV 85 #[.int .i64 b] W fun e w' => e = .returned (.func (.func 145) #[] #[.pointer (some ⟨w.heap.size + (k + 2), 0, none⟩)]) ∧ TabAt w w' (k + 2) :=
 (zKV b W).mono fun _ _ ⟨h1, h2⟩ => ⟨by rw [h1, h.size, Nat.add_assoc], by rw [h2, h.size]; exact (h.snoc ho).snoc ho2⟩
theorem zDi (w : World) (g : Nat) (cs : Array Value) {b : Nat} (h : b ≠ g) : (w.setRow g cs).heap[b]? = w.heap[b]? := by
 unfold World.setRow;simp only [Array.getElem?_modify];rw [if_neg (Ne.symm h)]
theorem zCn {n g : Nat} {w W : World} {cs : Array Value} (h : Below n w W) (hg : n ≤ g) : Below n w (W.setRow g cs) :=
 h.trans ⟨rfl, rfl, rfl, by simp [World.setRow], fun k hk => zDi _ _ _ qD⟩
theorem zJi {fn : Func} {p : Tmp} (h : fn.results = #[.cell p 65]) (tmps : Array Value) (w : World) (B : Nat) (vs : Array Value) (hp : tmps.getD p undef = .pointer (some ⟨B, 0, none⟩))
  (hB : w.heap[B]? = some (.cells vs 65)) (hs : (Tryz.prog.info? 65).map (·.size) = some vs.size) : (results fn tmps).run zV w = .ok (.agg vs) w := by
 have h1 := run_loadVar_row (P := zV) w B 65 65 _ _ _ hB Tryz.underlying65 rfl hs;have hp' : tmps[p]?.getD undef = .pointer (some ⟨B, 0, none⟩) := by simpa using hp
 simp [results, h, hp', asAddr, h1]
set_option maxRecDepth 100000 in
theorem zAY (w : World) : Calls zV 35 #[] w fun e w' => e = .returned (.agg (tabV w.heap.size)) ∧ Below w.heap.size w w' ∧ ∀ (k : Nat) (o : Obj), (uX w.heap.size)[k]? = some o → w'.heap[w.heap.size + (k + 1)]? = some o := by
 have ht : TabAt w (w.alloc (.cells Tryz.zeroCells65 65)) 0 := ⟨(Below.refl _ _).alloc (Nat.le_refl _) _, by simp, jF _ _ rfl, fun j _ hj => by omega⟩;go_enter Tryz.func35, Tryz.ntmps35
 go_wp2_with (first
  | (go_at_call 73; refine (zMM jC _ _ rfl).mono ?_; rintro e w2 ⟨rfl, ht⟩; simp only [Nat.reduceAdd] at ht)
  | (go_at_call 78; refine (zKd jC _ rfl rfl).mono ?_; rintro e w2 ⟨rfl, ht⟩; simp only [Nat.reduceAdd] at ht))
 go_at_call 85; refine (zGF jC _ rfl rfl).mono ?_; rintro e w2 ⟨rfl, ht⟩; simp only [Nat.reduceAdd] at ht;go_wp2_with fail;go_at_call 85; refine (zGF jC _ rfl rfl).mono ?_; rintro e w2 ⟨rfl, ht⟩; simp only [Nat.reduceAdd] at ht;simp only [];go_step;refine wpList_build rfl _ _ rfl zT ?_;refine wpList_build rfl _ _ rfl zT ?_;refine wpList_store_row rfl _ _ _ rfl w.heap.size (tabV w.heap.size) zT zT 65 _ (TabAt.tab jC) zT zT zT ?_;have HT := zA (And.intro ht.below (And.intro ht.tab ht.objs))
 generalize hact : Act.put _ _ _ = a9
 have ha9 : a9.tmps.getD 0 undef = .pointer (some ⟨w.heap.size, 0, none⟩) := by rw [← hact]; kernel_rfl
 have hd9 : a9.defers = [] := by rw [← hact]; kernel_rfl
 clear hact;clear ht;refine wpList_nil ?_;have hW := setRow_heap w2 w.heap.size _ (tabV w.heap.size) 65 _ HT.out.2.1;have hO : ∀ b, b ≠ w.heap.size → (w2.setRow w.heap.size (tabV w.heap.size)).heap[b]? = w2.heap[b]? := fun b hb => zDi w2 _ _ hb;have hB : Below w.heap.size w (w2.setRow w.heap.size (tabV w.heap.size)) := zCn HT.out.1 (Nat.le_refl _);simp only [Exit.then];refine ‹∀ (a : Act) (w : World), Code.wp _ _ _ a w → _› _ _ ?_;refine wp_ret ?_
 show bodyPost _ _ _ Exit.ret a9 _
 refine bodyPost_ret (zJi rfl _ _ w.heap.size _ ha9 hW zT) hd9 ?_
 exact ⟨rfl, hB, fun k o hk => by
  have hk20 : k < 20 := (List.getElem?_eq_some_iff.1 hk).1;rw [hO _ qD];exact HT.out.2.2 k o hk20 hk⟩
end Go.Proofs.YtcliojeoindceaaGreatDoor
namespace Go.Proofs.Qw
open Go.RowKit Go.Proofs.YtcliojeoindceaaGreatDoor
open _root_.List renaming getElem?_eq_some_iff → zK
def kV (l : List Cel) (k : Nat) : Int × List UInt8 :=
 (if 0 < k then (l.getD (k - 1) default).bits else if k < l.length then (l.getD k default).bits else 0,
  if 0 < k ∧ k < l.length ∧ (l.getD (k - 1) default).href = (l.getD k default).href then (l.getD (k - 1) default).href else [])
def zBu (l : List Cel) (k : Nat) : List UInt8 := if 0 < k ∧ (l.getD (k - 1) default).href ≠ [] then (l.getD (k - 1) default).href else if k < l.length then (l.getD k default).href else []
def vZ (l : List Cel) (h : List UInt8) : Nat → Nat
 | 0 => 0
 | k + 1 => if (l.getD k default).href = h then vZ l h k else k + 1
def vK (l : List Cel) (h : List UInt8) (k : Nat) : Nat := k + ((l.drop k).takeWhile fun c => decide (c.href = h)).length
def yA (l : List Cel) (k : Nat) : Nat × Nat := if zBu l k = [] then (k, k) else (vZ l (zBu l k) k, vK l (zBu l k) k)
theorem zGr {l : List Cel} {h : List UInt8} {k : Nat} {c : Cel} (hc : l[k]? = some c) (e : c.href = h) : vK l h k = vK l h (k + 1) := by
 obtain ⟨hk, rfl⟩ := zK.1 hc;unfold vK;rw [List.drop_eq_getElem_cons hk, List.takeWhile_cons_of_pos (by simpa using e), List.length_cons]
 omega
theorem zFN {l : List Cel} {h : List UInt8} {k : Nat} {c : Cel} (hc : l[k]? = some c) (e : c.href ≠ h) : vK l h k = k := by
 obtain ⟨hk, rfl⟩ := zK.1 hc;unfold vK;rw [List.drop_eq_getElem_cons hk, List.takeWhile_cons_of_neg (by simpa using e)]
 rfl
theorem zFO {l : List Cel} {h : List UInt8} {k : Nat} (hk : l.length ≤ k) : vK l h k = k := by
 unfold vK;rw [List.drop_eq_nil_of_le hk]
 rfl
def vA (l : List Cel) : Nat → Option Cel
 | 0 => none
 | k + 1 => l[k]?
theorem zKG (l : List Cel) (k : Nat) (hk : k ≤ l.length) : kV l k = (match vA l k, l[k]? with | some a, _ => a.bits | none, some b => b.bits | none, none => 0, match vA l k, l[k]? with | some a, some b => if a.href = b.href then a.href else [] | _, _ => []) := by
 unfold kV;cases k with
 | zero =>
  by_cases h : 0 < l.length
  ·obtain ⟨x, hx, _⟩ := jP l 0 h
   simp [vA, hx, h, List.getD]
  ·have : l[0]? = none := List.getElem?_eq_none qD
   simp [vA, this, h]
 | succ j =>
  obtain ⟨a, ha, _⟩ := jP l j qD
  by_cases h : j + 1 < l.length
  ·obtain ⟨b, hb, _⟩ := jP l (j + 1) h
   simp [vA, ha, hb, h, List.getD]
  ·have : l[j + 1]? = none := List.getElem?_eq_none qD
   simp [vA, ha, this, h, List.getD]
theorem zMx (l : List Cel) (k : Nat) (hk : k ≤ l.length) : zBu l k = match vA l k, l[k]? with | some a, some b => if a.href = [] then b.href else a.href | some a, none => a.href | none, some b => b.href | none, none => [] := by
 unfold zBu;cases k with
 | zero =>
  by_cases h : 0 < l.length
  ·obtain ⟨x, hx, _⟩ := jP l 0 h
   simp [vA, hx, h, List.getD]
  ·have : l[0]? = none := List.getElem?_eq_none qD
   simp [vA, this, h]
 | succ j =>
  obtain ⟨a, ha, _⟩ := jP l j qD
  by_cases h : j + 1 < l.length
  ·obtain ⟨b, hb, _⟩ := jP l (j + 1) h
   by_cases he : a.href = [] <;> simp [vA, ha, hb, h, he, List.getD]
  ·have : l[j + 1]? = none := List.getElem?_eq_none qD
   by_cases he : a.href = [] <;> simp [vA, ha, this, h, he, List.getD]
end Go.Proofs.Qw
namespace Go.Proofs.YtcliojeoindceaaGreatDoor
open Go.RowKit
open Go.Proofs.Qw
open _root_.Go.Lib renaming hid → zA
open _root_.Nat renaming le_refl → zC
open _root_.Go.RowKit.Below renaming refl → zE, setCell → zF, alloc → zG, drew → zH
open _root_.Int renaming natCast_nonneg → zR
def zAy (w : World) (p : Option Addr) : Option Cel → Prop
 | none => p = none
 | some c => ∃ b o, p = some ⟨b, o, none⟩ ∧ b < w.heap.size ∧ w.cell? ⟨b, o, none⟩ = some (.int .i32 c.r) ∧ w.cell? ⟨b, o + 1, none⟩ = some (.int .i64 c.bits) ∧ w.cell? ⟨b, o + 2, none⟩ = some (.string ⟨c.href.toArray⟩)
set_option maxRecDepth 100000 in
theorem zGh (v : Value) (l : List Cel) (k : Nat) (w : World) (S : Nat → Prop) (h : jE false w S v l) (hk : k ≤ l.length) :
  Calls Tryz.prog 226 #[v, .int .i64 k] w fun e w' => ∃ pa pb, e = .returned (.tuple #[.int .i64 k, .pointer pa, .pointer pb]) ∧ w' = w ∧ zAy w pa (vA l k) ∧ zAy w pb l[k]? := by
 obtain ⟨a, c, rfl, hc, hm, hx⟩ := uT h;have e1 : max (k : Int) 0 = k := by omega
 have e2 : min (k : Int) (l.length : Int) = k := by omega
 unfold maxLen at hm;have HX := zA hx;clear hx h;cases k with
 | zero =>
  by_cases hn : 0 < l.length
  ·obtain ⟨x, hx0, _⟩ := jP l 0 hn
   obtain ⟨b, o, rfl, hz, c0, c1, c2⟩ := HX.out 0 x hx0;have HB : Hid (zAy w (some ⟨b, o, none⟩) l[0]?) := zA (by rw [hx0]; exact ⟨b, o, rfl, hz, by simpa using c0, by simpa using c1, by simpa using c2⟩);clear hx0 c0 c1 c2 hz;go_enter Tryz.func226, Tryz.ntmps226;go_wp2_with fail;go_ret3;exact ⟨none, _, rfl, rfl, rfl, HB.out⟩
  ·have hn : l.length = 0 := by omega
   have HB : Hid (zAy w none l[0]?) := zA (by rw [List.getElem?_eq_none qD]; exact rfl);go_enter Tryz.func226, Tryz.ntmps226;go_wp2_with fail;go_ret3;exact ⟨none, none, rfl, rfl, rfl, HB.out⟩
 | succ j =>
  obtain ⟨x, hx0, _⟩ := jP l j qD;obtain ⟨b, o, rfl, hz, c0, c1, c2⟩ := HX.out j x hx0;have HA : Hid (zAy w (some ⟨b, o + j * 3, none⟩) (vA l (j + 1))) := zA (by show zAy _ _ l[j]?; rw [hx0]; exact ⟨b, o + j * 3, rfl, hz, c0, c1, c2⟩);have e1' : max ((j : Int) + 1) 0 = (j : Int) + 1 := by omega
  have e2' : min ((j : Int) + 1) (l.length : Int) = (j : Int) + 1 := by omega
  have e4 : ((j : Int) + 1).toNat = j + 1 := by omega
  clear e1 e2;clear hx0 c0 c1 c2
  by_cases hn : j + 1 < l.length
  ·obtain ⟨y, hy0, _⟩ := jP l (j + 1) hn
   obtain ⟨b', o', hbe, hz', c0, c1, c2⟩ := HX.out (j + 1) y hy0;cases hbe;have HB : Hid (zAy w (some ⟨b, o + (j + 1) * 3, none⟩) l[j + 1]?) := zA (by rw [hy0]; exact ⟨b, o + (j + 1) * 3, rfl, hz', c0, c1, c2⟩);clear hy0 c0 c1 c2 hz' hz;go_enter Tryz.func226, Tryz.ntmps226;go_wp2_with fail;go_ret3;exact ⟨_, _, rfl, rfl, HA.out, HB.out⟩
  ·have HB : Hid (zAy w none l[j + 1]?) := zA (by rw [List.getElem?_eq_none qD]; exact rfl)
   clear hz;go_enter Tryz.func226, Tryz.ntmps226;go_wp2_with fail;go_ret3;exact ⟨_, none, rfl, rfl, HA.out, HB.out⟩
set_option maxRecDepth 100000 in
theorem zDJ (v : Value) (l : List Cel) (k : Nat) (w : World) (S : Nat → Prop) (h : jE false w S v l) (hk : k ≤ l.length) :
  Calls Tryz.prog 141 #[v, .int .i64 k] w fun e w' => e = .returned (.tuple #[.int .i64 (kV l k).1, .string ⟨(kV l k).2.toArray⟩]) ∧ Below w.heap.size w w' := by
 have HS := zA (zGh v l k w S h hk);have HR := zA (zKG l k hk);obtain ⟨r1, r2, hr⟩ : ∃ r1 r2, kV l k = (r1, r2) := ⟨_, _, rfl⟩;rw [hr] at HR ⊢;clear hr hk;obtain ⟨a, c, rfl⟩ := h.slice;clear h;have hw0 : Below w.heap.size w w := zE _ _
 generalize vA l k = X at *
 generalize l[k]? = Y at *
 cases X with
 | none =>
  cases Y with
  | none =>
   go_enter Tryz.func141, Tryz.ntmps141;go_wp2_with (go_at_call 226; refine HS.out.mono ?_; intro e w1 hs; obtain ⟨pa, pb, rfl, rfl, hpa, hpb⟩ := hs; obtain rfl : pa = none := hpa; obtain rfl : pb = none := hpb);go_region;go_wp2_with fail;go_ret2;cases HR.out;exact ⟨rfl, zCe⟩
  | some y =>
   go_enter Tryz.func141, Tryz.ntmps141;go_wp2_with (go_at_call 226; refine HS.out.mono ?_; intro e w1 hs; obtain ⟨pa, pb, rfl, rfl, hpa, hpb⟩ := hs; obtain rfl : pa = none := hpa; obtain ⟨b, o, rfl, hz, c0, c1, c2⟩ := hpb);go_region;go_wp2_with fail;go_ret2;cases HR.out;exact ⟨rfl, zCe⟩
 | some x =>
  cases Y with
  | none =>
   go_enter Tryz.func141, Tryz.ntmps141;go_wp2_with (go_at_call 226; refine HS.out.mono ?_; intro e w1 hs; obtain ⟨pa, pb, rfl, rfl, hpa, hpb⟩ := hs; obtain ⟨b, o, rfl, hz, c0, c1, c2⟩ := hpa; obtain rfl : pb = none := hpb);go_region;go_wp2_with fail;go_ret2;cases HR.out;exact ⟨rfl, zCe⟩
  | some y =>
   by_cases hxy : x.href = y.href
   ·have HQ : Hid ((r1, r2) = (x.bits, x.href)) := zA (HR.out.trans (by simp [hxy]))
    have hq : (x.href == y.href) = true := by simpa using hxy
    clear hxy HR;go_enter Tryz.func141, Tryz.ntmps141;go_wp2_with (go_at_call 226; refine HS.out.mono ?_; intro e w1 hs; obtain ⟨pa, pb, rfl, rfl, hpa, hpb⟩ := hs; obtain ⟨b, o, rfl, hz, c0, c1, c2⟩ := hpa; obtain ⟨b', o', rfl, hz', c0', c1', c2'⟩ := hpb);go_region;go_wp2_with fail;go_ret2;cases HQ.out;exact ⟨rfl, zCe⟩
   ·have HQ : Hid ((r1, r2) = (x.bits, [])) := zA (HR.out.trans (by simp [hxy]))
    have hq : (x.href == y.href) = false := by simpa using hxy
    clear hxy HR;go_enter Tryz.func141, Tryz.ntmps141;go_wp2_with (go_at_call 226; refine HS.out.mono ?_; intro e w1 hs; obtain ⟨pa, pb, rfl, rfl, hpa, hpb⟩ := hs; obtain ⟨b, o, rfl, hz, c0, c1, c2⟩ := hpa; obtain ⟨b', o', rfl, hz', c0', c1', c2'⟩ := hpb);go_region;go_wp2_with fail;go_ret2;cases HQ.out;exact ⟨rfl, zCe⟩
set_option maxRecDepth 100000 in
theorem zJQ (v : Value) (l : List Cel) (k : Nat) (w : World) (S : Nat → Prop) (h : jE false w S v l) (hk : k ≤ l.length) (hl : l.length ≤ 1000000) :
  Calls Tryz.prog 264 #[v, .int .i64 k] w fun e w' => e = .returned (.tuple #[.int .i64 (yA l k).1, .int .i64 (yA l k).2]) ∧ Below w.heap.size w w' := by
 have HS := zA (zGh v l k w S h hk);have HE := zA (zMx l k hk);obtain ⟨H, hH⟩ : ∃ H, zBu l k = H := ⟨_, rfl⟩;have HR : Hid (yA l k = if H = [] then (k, k) else (vZ l H k, vK l H k)) := zA (by unfold yA; rw [hH]);rw [hH] at HE;clear hH;obtain ⟨a, c, rfl, hc, hm, hx⟩ := uT h;unfold maxLen at hm;have HX := zA hx;clear hx h;have hw0 : Below w.heap.size w w := zE _ _;go_enter Tryz.func264, Tryz.ntmps264;go_upto_if 18 with (go_at_call 226; refine HS.out.mono ?_; intro e w1 hs; obtain ⟨pa, pb, rfl, rfl, hpa, hpb⟩ := hs; have HA := zA hpa; have HB := zA hpb; clear hpa hpb)
 clear HS
 generalize vA l k = X at *
 obtain ⟨Y, hY⟩ : ∃ Y, l[k]? = Y := ⟨_, rfl⟩;rw [hY] at HB HE;clear hY;obtain ⟨h0, hh0⟩ : ∃ h0 : List UInt8, (Y.map (fun y : Cel => y.href)).getD [] = h0 := ⟨_, rfl⟩;have hE : H = (X.map (fun x : Cel => if x.href = [] then h0 else x.href)).getD h0 := by rw [HE.out, ← hh0]; cases X <;> cases Y <;> simp
 clear HE;have HE := zA hE;clear hE;go_cut [9] from 17 (fun r wx => r = .string ⟨h0.toArray⟩ ∧ wx = w1)
 case first =>
  cases Y with
  | none =>
   obtain rfl : pb = none := HB.out;cases hh0;go_wp2_with fail;go_meet
   case rel => exact ⟨rfl, rfl⟩
  | some y =>
   obtain ⟨b, o, rfl, hz, c0, c1, c2⟩ := HB.out;cases hh0;go_wp2_with fail;go_meet
   case rel => exact ⟨rfl, rfl⟩
 case rest =>
 obtain ⟨rfl, rfl⟩ := hcut;clear hh0 HB;obtain ⟨B, hB⟩ : ∃ B, (X.map (fun x : Cel => !x.href.isEmpty)).getD false = B := ⟨_, rfl⟩;go_upto_region 5 with fail
 go_cut [31] from 25 to 31 (fun r wx => r = .bool B ∧ wx = wc)
 case first =>
  cases X with
  | none =>
   obtain rfl : pa = none := HA.out;cases hB;go_wp2_with fail;go_meet
   case rel => exact ⟨rfl, rfl⟩
  | some x =>
   obtain ⟨b, o, rfl, hz, c0, c1, c2⟩ := HA.out;have hB' : B = !x.href.isEmpty := hB.symm;clear hB;cases hq : x.href.isEmpty
   all_goals
    rw [hq] at hB';subst hB';go_wp2_with fail;go_meet
    case rel => exact ⟨rfl, rfl⟩
 case rest =>
 obtain ⟨rfl, rfl⟩ := hcut
 have hHB : (B = false ∧ H = h0) ∨ (B = true ∧ ∃ x, X = some x ∧ H = x.href) := by
  rw [← hB, HE.out];cases X with
  | none => exact .inl ⟨rfl, rfl⟩
  | some x =>
   cases hx : x.href with
   | nil => exact .inl ⟨by simp [hx], by simp [hx]⟩
   | cons y l => exact .inr ⟨by simp [hx], x, rfl, by simp [hx]⟩
 have HHB := zA hHB;clear hHB hB HE;go_upto_if 31 with fail
 go_cut [9] from 32 (fun r wx => r = .string ⟨H.toArray⟩ ∧ wx = wc)
 case first =>
  rcases HHB.out with ⟨rfl, rfl⟩ | ⟨rfl, x, rfl, rfl⟩
  ·go_wp2_with fail
   go_meet
   case rel => exact ⟨rfl, rfl⟩
  ·obtain ⟨b, o, rfl, hz, c0, c1, c2⟩ := HA.out
   go_wp2_with fail;go_meet
   case rel => exact ⟨rfl, rfl⟩
 case rest =>
 obtain ⟨rfl, rfl⟩ := hcut;clear HA HHB
 by_cases hH : H = []
 ·have HQ : Hid (yA l k = (k, k)) := zA (HR.out.trans (if_pos hH))
  subst hH;go_wp2_with fail;go_ret2;rw [HQ.out];exact ⟨rfl, hw0⟩
 ·have HQ : Hid (yA l k = (vZ l H k, vK l H k)) := zA (HR.out.trans (if_neg hH))
  have hne : H.isEmpty = false := by simpa using hH
  clear HR hH;go_wp2_with fail;go_loopw [4] (fun i wr => ∃ j : Nat, j ≤ k ∧ i = .int .i64 j ∧ Hid (vZ l H k = vZ l H j) ∧ wc = wr) (fun i _ => (intOf i).toNat)
  case atStart => exact ⟨k, zC _, rfl, zA rfl, rfl⟩
  case round =>
   obtain ⟨j, hj, rfl, HJ, rfl⟩ := hrel
   have hdone : (j = 0 ∨ ∃ m, j = m + 1 ∧ ∃ x, l[m]? = some x ∧ x.href ≠ H) ∨ ∃ m, j = m + 1 ∧ ∃ x, l[m]? = some x ∧ x.href = H := by
    cases j with
    | zero => exact .inl (.inl rfl)
    | succ m =>
     obtain ⟨x, hx, _⟩ := jP l m qD
     by_cases e : x.href = H
     ·exact .inr ⟨m, rfl, x, hx, e⟩
     ·exact .inl (.inr ⟨m, rfl, x, hx, e⟩)
   rcases hdone with (rfl | ⟨m, rfl, x, hx, hxe⟩) | ⟨m, rfl, x, hx, hxe⟩
   ·have HB' : Hid (vZ l H k = 0) := zA (HJ.out.trans rfl)
    go_wp2_with fail;go_loopw [5] (fun i wr => ∃ n : Nat, k ≤ n ∧ n ≤ l.length ∧ i = .int .i64 n ∧ Hid (vK l H k = vK l H n) ∧ wc = wr) (fun i _ => l.length - (intOf i).toNat)
    case atStart => exact ⟨k, zC _, hk, rfl, zA rfl, rfl⟩
    case round =>
     obtain ⟨n, hn, hnl, rfl, HN, rfl⟩ := hrel
     by_cases hlt : n < l.length
     ·obtain ⟨y, hy, _⟩ := jP l n hlt
      obtain ⟨b', o', hbe, hz', d0, d1, d2⟩ := HX.out n y hy;subst hbe;have n0 : (0 : Int) ≤ (n : Int) := zR _
      by_cases hye : y.href = H
      ·have HF := zA (HN.out.trans (zGr hy hye))
       have hq : (y.href == H) = true := by simpa using hye
       clear hy hye;go_wp2_with fail;go_roundw
       case rel => exact ⟨n + 1, by omega, by omega, by go_num, HF, by simp⟩
       case measure => simp [intOf]; omega
      ·have HF := zA (HN.out.trans (zFN hy hye))
       have hq : (y.href == H) = false := by simpa using hye
       clear hy hye;go_wp2_with fail;go_ret2;rw [HQ.out, HB'.out, HF.out];exact ⟨rfl, hw0⟩
     ·obtain rfl : n = l.length := by omega
      have HF := zA (HN.out.trans (zFO (zC _)));go_wp2_with fail;go_ret2;rw [HQ.out, HB'.out, HF.out];exact ⟨rfl, hw0⟩
   ·have HB' : Hid (vZ l H k = m + 1) := zA (HJ.out.trans (by unfold vZ; rw [if_neg (by simpa [List.getD, hx] using hxe)]))
    obtain ⟨b, o, rfl, hz, c0, c1, c2⟩ := HX.out m x hx;have hq : (x.href == H) = false := by simpa using hxe
    have e3 : ((m + 1 : Nat) : Int) - 1 = m := by omega
    clear hx hxe;go_wp2_with fail;go_loopw [5] (fun i wr => ∃ n : Nat, k ≤ n ∧ n ≤ l.length ∧ i = .int .i64 n ∧ Hid (vK l H k = vK l H n) ∧ wc = wr) (fun i _ => l.length - (intOf i).toNat)
    case atStart => exact ⟨k, zC _, hk, rfl, zA rfl, rfl⟩
    case round =>
     obtain ⟨n, hn, hnl, rfl, HN, rfl⟩ := hrel
     by_cases hlt : n < l.length
     ·obtain ⟨y, hy, _⟩ := jP l n hlt
      obtain ⟨b', o', hbe, hz', d0, d1, d2⟩ := HX.out n y hy;cases hbe;have n0 : (0 : Int) ≤ (n : Int) := zR _
      by_cases hye : y.href = H
      ·have HF := zA (HN.out.trans (zGr hy hye))
       have hq : (y.href == H) = true := by simpa using hye
       clear hy hye;go_wp2_with fail;go_roundw
       case rel => exact ⟨n + 1, by omega, by omega, by go_num, HF, by simp⟩
       case measure => simp [intOf]; omega
      ·have HF := zA (HN.out.trans (zFN hy hye))
       have hq : (y.href == H) = false := by simpa using hye
       clear hy hye;go_wp2_with fail;go_ret2;rw [HQ.out, HB'.out, HF.out];exact ⟨rfl, hw0⟩
     ·obtain rfl : n = l.length := by omega
      have HF := zA (HN.out.trans (zFO (zC _)));go_wp2_with fail;go_ret2;rw [HQ.out, HB'.out, HF.out];exact ⟨rfl, hw0⟩
   ·have HB' := zA (HJ.out.trans (show vZ l H (m + 1) = vZ l H m by rw [vZ, if_pos (by simpa [List.getD, hx] using hxe)]))
    obtain ⟨b, o, rfl, hz, c0, c1, c2⟩ := HX.out m x hx;have hq : (x.href == H) = true := by simpa using hxe
    have e3 : ((m + 1 : Nat) : Int) - 1 = m := by omega
    clear hx hxe;go_wp2_with fail;go_roundw
    case rel => exact ⟨m, by omega, by go_num, HB', by simp⟩
    case measure => simp [intOf]
end Go.Proofs.YtcliojeoindceaaGreatDoor
namespace Go.Proofs.Qw
open Go.RowKit Go.Proofs.YtcliojeoindceaaGreatDoor
def selS (s : St) : List Cel := cellsD s.lines (qV s).1 (qV s).2
def yF (s : St) : List Cel := (s.lines.getD s.anc.line.toNat default).cells
def andB (l : List Cel) : Int := l.foldl (fun b c => bits .and .i64 b c.bits) 15
def zCR (l : List Cel) : Int := if l = [] then 0 else andB l
def yH (s : St) : Int := if mayS s = true then (if s.anc = s.foc then bits .or .i64 (bits .andNot .i64 (kV (yF s) s.anc.col.toNat).1 s.off) s.on else zCR (selS s)) else 0
def hasS (s : St) (b : Int) : Bool := !(b == 0) && (bits .and .i64 (yH s) b == b)
def allL (l : List Cel) (b : Int) : Bool := decide (0 < l.length) && l.all fun c => bits .and .i64 c.bits b == b
def uG (l : List Cel) (b : Int) : Bool := l.any fun c => bits .and .i64 c.bits b != 0
def yY (s : St) (b : Int) : Bool := mayS s && (!decide (s.anc = s.foc) && (uG (selS s) b && !allL (selS s) b))
def kP (s : St) : Ps × Ps := if s.anc = s.foc then (⟨s.anc.line, ((yA (yF s) s.anc.col.toNat).1 : Int)⟩, ⟨s.anc.line, ((yA (yF s) s.anc.col.toNat).2 : Int)⟩) else qV s
def zEp : List Cel → List UInt8
 | [] => []
 | c :: l => if l.all (fun x => decide (x.href = c.href)) = true then c.href else []
def zBt (s : St) : List UInt8 := if mayS s = true then zEp (cellsD s.lines (kP s).1 (kP s).2) else []
def yM (s : St) (x : Doc × Int) : St × Int := if x.2 = 0 then (⟨x.1, s.anc, s.foc, 0, 0⟩, 0) else (noS, x.2)
def xI (s : St) (x : Doc × Int) : St × Int := if mayS s = true then yM s x else (noS, 1)
def four (b : Int) : Bool := decide (b = 1) || (decide (b = 2) || (decide (b = 4) || decide (b = 8)))
def togC (s : St) (b : Int) : St :=
 { s with on := bits .or .i64 (bits .andNot .i64 s.on b) (bits .andNot .i64 b (yH s)), off := bits .or .i64 (bits .andNot .i64 s.off b) (bits .andNot .i64 b (bits .andNot .i64 b (yH s))) }
def togD (s : St) (b : Int) : Doc × Int := if allL (selS s) b = true then setD 0 b s.lines (qV s).1 (qV s).2 else setD b 0 s.lines (qV s).1 (qV s).2
def vS (s : St) (b : Int) : St × Int := if mayS s = true ∧ four b = true then (if s.anc = s.foc then (togC s b, 0) else yM s (togD s b)) else (noS, 1)
def zBs (s : St) (h : List UInt8) : Doc × Int := if yQ h = true then vM h s.lines (qV s).1 (qV s).2 else ([], 1)
def uL (s : St) : Doc × Int := if (cellsD s.lines (kP s).1 (kP s).2).any (fun c => decide (c.href ≠ [])) = true then vM [] s.lines (kP s).1 (kP s).2 else ([], 7)
def zBm (s : St) : Doc × Int := if uG (selS s) 15 = true then setD 0 15 s.lines (qV s).1 (qV s).2 else ([], 7)
theorem zEV {s : St} (h : s.anc = s.foc) : qV s = (s.anc, s.anc) := by
 have : cmpP s.foc s.foc = 0 := by simp [cmpP, cmpI]
 unfold qV;rw [h, this, if_neg qD]
theorem yK {s : St} (h : mayS s = true) : mayD s.lines = true ∧ isD s.lines s.anc = true ∧ isD s.lines s.foc = true ∧ bits .andNot .i64 s.on 15 = 0 ∧ bits .andNot .i64 s.off 15 = 0 ∧ bits .and .i64 s.on s.off = 0 := by
 simpa [mayS, and_assoc] using h
theorem zGk {s : St} (h : mayS s = true) : jU s.lines (qV s).1 (qV s).2 = true := by
 obtain ⟨h1, h2, h3, _⟩ := yK h;unfold qV
 split
 ·rename_i hc
  rw [zHi] at hc;simp [jU, h1, h2, h3]
  omega
 ·simp [jU, h1, h2, h3]
  omega
theorem zAX {b : Int} (h : four b = true) : b = 1 ∨ b = 2 ∨ b = 4 ∨ b = 8 := by
 simpa [four] using h
theorem zML (a c b : Int) (ha : 0 ≤ a ∧ a ≤ 15) (hc : 0 ≤ c ∧ c ≤ 15) (hb : four b = true) : (bits .and .i64 (bits .and .i64 a c) b == b) = ((bits .and .i64 a b == b) && (bits .and .i64 c b == b)) ∧ (0 ≤ bits .and .i64 a c ∧ bits .and .i64 a c ≤ 15) := by
 obtain ⟨a, rfl⟩ := Int.eq_ofNat_of_zero_le ha.1;obtain ⟨c, rfl⟩ := Int.eq_ofNat_of_zero_le hc.1;have H : ∀ a c : Fin 16, ∀ b ∈ [(1 : Int), 2, 4, 8], (bits .and .i64 (bits .and .i64 (a.val : Int) c.val) b == b) = ((bits .and .i64 (a.val : Int) b == b) && (bits .and .i64 (c.val : Int) b == b)) ∧ (0 ≤ bits .and .i64 (a.val : Int) c.val ∧ bits .and .i64 (a.val : Int) c.val ≤ 15) := by decide +kernel
 exact H ⟨a, by omega⟩ ⟨c, by omega⟩ b (by rcases zAX hb with rfl | rfl | rfl | rfl <;> simp)
theorem zGM {b : Int} (hb : four b = true) : ∀ (l : List Cel) (a : Int), 0 ≤ a ∧ a ≤ 15 → (∀ c ∈ l, 0 ≤ c.bits ∧ c.bits ≤ 15) →
  (bits .and .i64 (l.foldl (fun b c => bits .and .i64 b c.bits) a) b == b) = ((bits .and .i64 a b == b) && l.all fun c => bits .and .i64 c.bits b == b) ∧ (0 ≤ l.foldl (fun b c => bits .and .i64 b c.bits) a ∧ l.foldl (fun b c => bits .and .i64 b c.bits) a ≤ 15)
 | [], a, ha, _ => by simpa using ha
 | c :: l, a, ha, h => by
  have h1 := zML a c.bits b ha (h c qF) hb;have h2 := zGM hb l (bits .and .i64 a c.bits) h1.2 (fun x hx => h x (by simp [hx]));rw [List.foldl_cons, List.all_cons, h2.1, h1.1, Bool.and_assoc];exact ⟨rfl, h2.2⟩
theorem zMJ {l : List Cel} {b : Int} (hb : four b = true) (h : ∀ c ∈ l, 0 ≤ c.bits ∧ c.bits ≤ 15) : (bits .and .i64 (zCR l) b == b) = allL l b := by
 cases l with
 | nil => rcases zAX hb with rfl | rfl | rfl | rfl <;> decide +kernel
 | cons c l =>
  have h1 := (zGM hb (c :: l) 15 qW h).1;have h2 : (bits .and .i64 15 b == b) = true := by rcases zAX hb with rfl | rfl | rfl | rfl <;> decide +kernel
  rw [h2, Bool.true_and] at h1;unfold zCR allL andB;rw [if_neg qF, h1]
  simp
theorem zLL {d : Doc} {a b : Ps} (h : mayD d = true) : ∀ c ∈ cellsD d a b, mayC c = true := by
 intro c hc;unfold cellsD at hc
 split at hc
 ·obtain ⟨x, _, hx⟩ := List.mem_flatMap.1 hc
  have h1 := List.mem_of_mem_drop (List.mem_of_mem_take hx)
  by_cases hk : x.1 < d.length
  ·obtain ⟨l, hl, _⟩ := jP d x.1 hk
   rw [List.getD, hl] at h1
   have h2 : mayL l = true := by
    simp only [mayD, Bool.and_eq_true, List.all_eq_true] at h;exact h.2 l (List.mem_of_getElem? hl)
   simp only [mayL, Bool.and_eq_true] at h2;exact List.all_eq_true.1 h2.2 c h1
  ·rw [List.getD, List.getElem?_eq_none qD] at h1
   cases h1
 ·cases hc
theorem zFY {d : Doc} {a b : Ps} (h : mayD d = true) : ∀ c ∈ cellsD d a b, 0 ≤ c.bits ∧ c.bits ≤ 15 := by
 intro c hc;have := zLL h c hc;simp only [mayC, Bool.and_eq_true, decide_eq_true_eq] at this;exact ⟨this.1.1.2, this.1.2⟩
end Go.Proofs.Qw
namespace Go.Proofs.YtcliojeoindceaaGreatDoor
open Go.RowKit
open Go.Proofs.Qw
theorem zBl {P : Program} {st t : TypeId} {k : Nat} (hT : RowT P st t k) (w : World) (l : List Value) (hl : l.length = k) (h1 : ∀ u ∈ l, u.oneCell' = true) (c : Nat) {B : Nat} (hB : B = w.heap.size) : Src P k st (.slice (some ⟨B, 0, none⟩) 1 c) 1 l (w.alloc (.cells l.toArray t)) := hB ▸ zGY hT w l hl h1 c
def yN (d : Doc) (x : Nat × Nat × Nat) : Lin := { (d.getD x.1 default) with cells := uN d x }
def vB (d : Doc) (a b : Ps) : Doc × Int := if jU d a b = true then ((jY d a.line.toNat a.col.toNat b.line.toNat b.col.toNat (b.line.toNat + 1)).map (yN d), 0) else ([], 1)
theorem zKX {d : Doc} {x : Nat × Nat × Nat} {l : Lin} (h : d[x.1]? = some l) : yN d x = { l with cells := (l.cells.drop x.2.1).take (x.2.2 - x.2.1) } := by
 unfold yN;rw [zBN h];simp [List.getD, h]
theorem zKt (d : Doc) (xs : List (Nat × Nat × Nat)) : (xs.map (yN d)).flatMap (·.cells) = kO d xs := by
 unfold kO;rw [List.flatMap_map]
 rfl
theorem zFu (d : Doc) (i p j q : Nat) : ∀ n : Nat, i + n ≤ d.length → (kO d (jY d i p j q (i + n))).length ≤ jH (d.take (i + n))
 | 0, _ => by rw [Nat.add_zero, zAF]; simp [kO]
 | n + 1, h => by
  have ih := zFu d i p j q n qD;obtain ⟨l, hl, _⟩ := jP d (i + n) qD;have hs := zBI hl;rw [show i + (n + 1) = i + n + 1 by omega, zAC d qD, zCv, List.length_append]
  have : (uN d (rowB d i p j q (i + n))).length ≤ l.cells.length := by
   rw [zBN (x := rowB d i p j q (i + n)) hl, List.length_take, List.length_drop]
   omega
  omega
theorem zBG (d : Doc) (a b : Ps) : (cellsD d a b).length ≤ jH d := by
 unfold cellsD
 split
 ·rename_i h
  obtain ⟨_, i, j, p, q, l, m, rfl, rfl, hl, hm, _, _, hij, _⟩ := vF h;have hjl := (List.getElem?_eq_some_iff.1 hm).1;have := zFu d i p j q (j + 1 - i) qD;rw [show i + (j + 1 - i) = j + 1 by omega] at this;exact Nat.le_trans this (zBO d _)
 ·simp
end Go.Proofs.YtcliojeoindceaaGreatDoor
namespace Go.Proofs.Qw
open Go.RowKit Go.Proofs.YtcliojeoindceaaGreatDoor
theorem zEF (C : List Cel → Nat → Nat → List Cel) (d : Doc) (i p j q : Nat) : ∀ (n m : Nat), i + n ≤ m → (xB C d (jY d i p j q (i + n)))[m]? = d[m]?
 | 0, m, _ => by rw [Nat.add_zero, zAF]; rfl
 | n + 1, m, h => by
  have ih := zEF C d i p j q n m qD;rw [show i + (n + 1) = i + n + 1 by omega, zAC d qD, zDu];unfold setRow;rw [List.getElem?_set_ne (by show ¬ i + n = m; omega)];exact ih
theorem zIp (C : List Cel → Nat → Nat → List Cel) {d : Doc} {i p j q k : Nat} {l : Lin} (h : i ≤ k) (hl : d[k]? = some l) :
  (xB C d (jY d i p j q k))[k]? = some l ∧ xB C d (jY d i p j q (k + 1)) = (xB C d (jY d i p j q k)).set k { l with cells := C l.cells (rowB d i p j q k).2.1 (rowB d i p j q k).2.2 } := by
 have hb := zEF C d i p j q (k - i) k qD;rw [show i + (k - i) = k by omega, hl] at hb;refine ⟨hb, ?_⟩;rw [zAC d h, zDu, zDQ (x := rowB d i p j q k) hb]
 rfl
end Go.Proofs.Qw
namespace Go.Proofs.YtcliojeoindceaaGreatDoor
open Go.RowKit
open Go.Proofs.Qw
open _root_.Go.Lib renaming hid → zA
open _root_.Nat renaming le_refl → zC, le_trans → zD
open _root_.Go.Proofs.Tryz renaming prog → zV
open _root_.Go.Proofs.Qw renaming jZ → qC
open _root_.Go.Proofs.Qw.SliceR renaming stable → qH
theorem zIh {P : Program} {ops : Array Oper} {Q : Exit → Act → World → Prop} {l : List Oper} {a : Act} {w : World} (h : ∀ w', w = w' → wpList P ops Q l a w') : wpList P ops Q l a w := h w rfl
set_option maxRecDepth 100000 in
theorem zEP (l : Lin) (a b : Value) (o1 o2 : Bool) (w w0 : World) (S : Nat → Prop) (hL : jJ o1 w0 S a l.lists) (hC : jE o2 w0 S b l.cells) (h0 : Below w0.heap.size w0 w) (hs : l.lists.length ≤ 1000000 ∧ l.cells.length ≤ 1000000) :
  Calls zV 265 #[linV l a b] w fun e w' => ∃ a', e = .returned (linV l a' (.slice none 0 0)) ∧ jJ true w' (fun b => w.heap.size ≤ b) a' l.lists ∧ Below w.heap.size w w' := by
 have HO : Hid (∀ W, Below w0.heap.size w0 W → Calls zV 134 #[linV l a b] W fun e w' => ∃ a' b', e = .returned (linV l a' b') ∧ jJ true w' (fun b => W.heap.size ≤ b) a' l.lists ∧ jE true w' (fun b => W.heap.size ≤ b) b' l.cells ∧ Below W.heap.size W w') := zA fun W hW => zBF l a b o1 o2 W w0 S hL hC hW hs;obtain ⟨la, lc, rfl⟩ := hL.slice;obtain ⟨ca, cc, rfl⟩ := hC.slice;obtain ⟨W1, hW1, hB, hz, hA1, hA2⟩ := zAo w (.int .i64 l.quote) (.slice la l.lists.length lc) (.int .i64 l.kind) (.slice ca l.cells.length cc) (.int .i64 0) (.slice none 0 0) (.int .i64 0) (.slice none 0 0);have hs1 := hB.size;have HB0 : Hid (∀ W, Below W1.heap.size W1 W → W.heap[w.heap.size]? = some (.cells #[.int .i64 l.quote, .slice la l.lists.length lc, .int .i64 l.kind, .slice ca l.cells.length cc] 60)) := zA fun W hW => jI hW hA1;have HB1 : Hid (∀ W, Below W1.heap.size W1 W → W.heap[w.heap.size + 1]? = some (.cells #[.int .i64 0, .slice none 0 0, .int .i64 0, .slice none 0 0] 60)) := zA fun W hW => jI hW hA2;have H1 := zA hB;have h01 : Below w0.heap.size w0 W1 := jG h0 hB;obtain ⟨p1, f1⟩ := blk hA1;obtain ⟨p2, f2⟩ := blk hA2;clear hL hC hs hB h0;unfold linV at HO ⊢;go_enter Tryz.func265, Tryz.ntmps265;go_wp2_with (first | (go_at_call 134; refine (HO.out _ h01).mono ?_; rintro e w2 ⟨a', b', rfl, ha', hb', hb2⟩; obtain ⟨a1, c1, rfl⟩ := ha'.slice; obtain ⟨a2, c2, rfl⟩ := hb'.slice; have hA3 := HB0.out _ hb2; have hA4 := HB1.out _ hb2; obtain ⟨p3, f3⟩ := blk hA3; obtain ⟨p4, f4⟩ := blk hA4) | (with_reducible show wpList _ _ _ _ _ _; refine wpList_load_row rfl 60 _ rfl w.heap.size rfl 60 #[.int .i64 l.quote, .slice a1 l.lists.length c1, .int .i64 l.kind, .slice none 0 0] (0, 0) _ (by simp [jO, jA, hA3]) Tryz.underlying60 rfl zT ?_; with_reducible refine zIh ?_; intro w3 hw3; have hA5 : w3.heap[w.heap.size + 1]? = some (.cells #[.int .i64 0, .slice none 0 0, .int .i64 0, .slice none 0 0] 60) := (by rw [← hw3]; simp [jO, hA4]); obtain ⟨p5, f5⟩ := blk hA5; clear p3 f3 p4 f4));refine bodyPost_ret (zEW rfl _ _ (w.heap.size + 1) (.int .i64 l.quote) (.slice a1 l.lists.length c1) (.int .i64 l.kind) (.slice none 0 0) rfl (by simp [jO, jA, hA5])) rfl ?_;have s2 := hb2.size;have hfin := H1.out.trans (hb2.mono hs1);have hf3 : Below w.heap.size w w3 := by rw [← hw3]; ((with_reducible repeat' first | exact Below.refl _ _ | assumption | refine Below.alloc ?_ ?_ _ | refine Below.drew ?_ | refine jQ ?_ | refine Below.setCell ?_ ?_ _) <;> go_size)
 have hi3 : jJ true w3 (fun b => W1.heap.size ≤ b) (.slice a1 l.lists.length c1) l.lists := by rw [← hw3]; exact (qH (qC _) ha' zAQ (fun b h _ => jL))
 exact ⟨_, rfl, (qH (qC _) hi3 zAQ (fun b h _ => jL)), by ((with_reducible repeat' first | exact Below.refl _ _ | assumption | refine Below.alloc ?_ ?_ _ | refine Below.drew ?_ | refine jQ ?_ | refine Below.setCell ?_ ?_ _) <;> go_size)⟩
def kN (l : Lin) (p : Nat) : Lin × Lin := ({ l with cells := l.cells.take p }, if l.cells.length ≤ p then { l with kind := 0, cells := [] } else { l with cells := l.cells.drop p })
theorem zDj {fn : Func} {p q u : Tmp} (h : fn.results = #[.cell p 60, .cell q 60, .tmp u]) (tmps : Array Value) (w : World) (B C : Nat) (x1 x2 x3 x4 y1 y2 y3 y4 : Value) (hp : tmps.getD p undef = .pointer (some ⟨B, 0, none⟩)) (hq : tmps.getD q undef = .pointer (some ⟨C, 0, none⟩))
  (hB : w.heap[B]? = some (.cells #[x1, x2, x3, x4] 60)) (hC : w.heap[C]? = some (.cells #[y1, y2, y3, y4] 60)) :
  (results fn tmps).run zV w = .ok (.tuple #[.agg #[x1, x2, x3, x4], .agg #[y1, y2, y3, y4], tmps.getD u undef]) w := by
 have h1 := run_loadVar_row (P := zV) w B 60 60 _ _ _ hB Tryz.underlying60 rfl zT;have h2 := run_loadVar_row (P := zV) w C 60 60 _ _ _ hC Tryz.underlying60 rfl zT;have hp' : tmps[p]?.getD undef = .pointer (some ⟨B, 0, none⟩) := by simpa using hp
 have hq' : tmps[q]?.getD undef = .pointer (some ⟨C, 0, none⟩) := by simpa using hq
 simp [results, h, hp', hq', asAddr, h1, h2]
theorem SliceR.caps {α : Type} {t : TypeId} {k : Nat} {R : Rd α} {own : Bool} {w : World} {S : Nat → Prop} {xs : List α} {a : Option Addr} {n c : Nat} (h : SliceR t k R own w S (.slice a n c) xs) {m : Nat} (hn : xs.length ≤ m) (hm : m ≤ c) : SliceR t k R own w S (.slice a n m) xs := by
 obtain ⟨a', c', e, hc, hcm, hx⟩ := h;cases e;refine ⟨a, m, rfl, hn, by omega, ?_⟩;rcases hx with ⟨rfl, h0⟩ | ⟨b, o, rfl, hb, hz, hf, he⟩
 ·exact .inl ⟨rfl, fun ho => by have := h0 ho; omega⟩
 ·refine .inr ⟨b, o, rfl, hb, hz, fun ho => ?_, he⟩
  obtain ⟨cs, g1, g2⟩ := hf ho;exact ⟨cs, g1, zD (Nat.add_le_add_left (Nat.mul_le_mul_right _ hm) _) g2⟩
theorem zKD {Y : World} {S : Nat → Prop} {a : Option Addr} {n c p : Nat} {xs : List Cel} (h : jE true Y S (.slice a n c) xs) (hp : p ≤ xs.length) (hcp : ¬ c = p) : jE true Y S (.slice (Option.map (fun x => x.add (p * 3)) a) (xs.length - p) (c - p)) (xs.drop p) := by
 have := SliceR.part h (i := p) (j := xs.length) (m := c) hp (zC _) h.len.2.1 (zC _);rw [List.take_of_length_le zBz] at this
 simpa only [sliced, if_neg hcp] using this
theorem zDV {P : Program} {c : Code} {Q : Exit → Act → World → Prop} {a : Act} {w : World} (h : ∀ w', w = w' → c.wp P Q a w') : c.wp P Q a w := h w rfl
theorem xS (w : World) : w.drew.heap = w.heap := rfl
theorem kA (X : World) (B : Nat) (t : TypeId) (z1 z2 z3 z4 x1 x2 x3 x4 : Value) (h : X.heap[B]? = some (.cells #[z1, z2, z3, z4] t)) : ∃ Y, (((X.setCell ⟨B, 0, none⟩ x1).setCell ⟨B, 1, none⟩ x2).setCell ⟨B, 2, none⟩ x3).setCell ⟨B, 3, none⟩ x4 = Y ∧ Y.heap[B]? = some (.cells #[x1, x2, x3, x4] t) ∧ Y.heap.size = X.heap.size ∧
  (∀ b, b ≠ B → Y.heap[b]? = X.heap[b]?) ∧ (∀ n, n ≤ B → ∀ w, Below n w X → Below n w Y) := by
 refine ⟨_, rfl, by simp [jO, jA, h], by simp, fun b hb => by simp [jO, Ne.symm hb], fun n hn w hw => ?_⟩;exact (((hw.setCell hn _).setCell hn _).setCell hn _).setCell hn _
def xK (cs : List Cel) (p : Nat) (more : List Cel) : List Cel := cs.take p ++ more ++ cs.drop p
theorem zLJ {w : World} {S : Nat → Prop} {a : Option Addr} {n c p : Nat} {xs : List Cel} (h : jE false w S (.slice a n c) xs) (hp : p ≤ xs.length) :
  ∃ X, jE false w S (.slice X (xs.length - p) (c - p)) (xs.drop p) ∧ ((c = p ∧ a = X) ∨ (¬ c = p ∧ a.map (·.add (p * 3)) = X)) := by
 obtain ⟨_, h2, h3⟩ := h.len;have := SliceR.part h (i := p) (j := xs.length) (m := c) hp (zC _) h2 (zC _);rw [List.take_of_length_le zBz] at this
 by_cases hcp : c = p
 ·exact ⟨a, by simpa only [sliced, if_pos hcp] using this, .inl ⟨hcp, rfl⟩⟩
 ·exact ⟨_, by simpa only [sliced, if_neg hcp] using this, .inr ⟨hcp, rfl⟩⟩
set_option maxRecDepth 100000 in
theorem zHA (ca vb : Option Addr) (cc vc p : Nat) (cs more : List Cel) (w w0 w1 : World) (S S2 : Nat → Prop) (o1 o2 : Bool) (h' : jE o1 w0 S (.slice ca cs.length cc) cs) (hm' : jE o2 w1 S2 (.slice vb more.length vc) more)
  (h0 : Below w0.heap.size w0 w) (h1 : Below w1.heap.size w1 w) (hp : p ≤ cs.length) (hs : cs.length ≤ 1000000) (hs2 : more.length ≤ 1000000) :
  Calls zV 228 #[.slice ca cs.length cc, .int .i64 p, .slice vb more.length vc] w (CellsSaid (xK cs p more) 0 w) := by
 have h : jE false w (fun _ => True) (.slice ca cs.length cc) cs := qH (qC _) (SliceR.read (fun _ _ h => h) h') (.all h0) (fun _ _ _ => trivial);have hm : jE false w (fun _ => True) (.slice vb more.length vc) more := qH (qC _) (SliceR.read (fun _ _ h => h) hm') (.all h1) (fun _ _ _ => trivial);have HC1 := zA (zDs _ cs p p w (fun _ => True) false h);have hsp : uO cs.length p p = true := by unfold uO; simp; omega
 rw [hsp] at HC1;obtain ⟨_, hccl, hccm⟩ := h.len;obtain ⟨X, hX, hcq⟩ := zLJ h hp
 have hHC : ∀ W, Below w.heap.size w W → ∀ g, W.heap[g]? = some (.cells #[.slice ca p cc, .slice vb more.length vc, .slice X (cs.length - p) (cc - p)] 58) → Calls zV 239 #[.slice (some ⟨g, 0, none⟩) 3 3] W fun e w' => ∃ v', e = .returned v' ∧ jE true w' (fun b => W.heap.size ≤ b) v' (xK cs p more) ∧ Below W.heap.size W w' := by
  intro W hW g hg;have ha := (SliceR.below (qC _) h hW).take (i := p) hp;have hb := SliceR.below (qC _) hm hW;have hc := SliceR.below (qC _) hX hW
  have := zEG g 3 #[.slice ca p cc, .slice vb more.length vc, .slice X (cs.length - p) (cc - p)] [cs.take p, more, cs.drop p] W (fun _ => True) hg (fun k xs hk => by
   match k, hk with
   | 0, hk => cases hk; exact ⟨_, rfl, ha⟩
   | 1, hk => cases hk; exact ⟨_, rfl, hb⟩
   | 2, hk => cases hk; exact ⟨_, rfl, hc⟩) (by simp [lens]; omega) qF rfl
  simpa [xK] using this
 have HC := zA hHC;have hBd : ∀ X, Below w.heap.size w (w.alloc X).drew := fun X => ((Below.refl _ _).alloc (zC _) X).drew;unfold maxLen at hccm;have u0 : (0 : Int) ≤ (p : Int) := Int.natCast_nonneg _;have u1 : (p : Int) ≤ (cc : Int) := by omega
 have u2 : (p : Int) ≤ (cs.length : Int) := by omega
 clear h hm h' hm' hX hHC hsp;rcases hcq with ⟨rfl, rfl⟩ | ⟨hcq, rfl⟩
 ·rw [Nat.sub_self, show cs.length - cc = 0 by omega] at HC
  go_enter Tryz.func228, Tryz.ntmps228;go_wp2_with (go_at_call 277; refine HC1.out.mono ?_; rintro e w2 ⟨rfl, rfl⟩);go_region_held3 (fun _ => True) (trivial) ((go_at_call 239; refine (HC.out _ (hBd _) _ (jF _ _ rfl)).mono ?_; rintro e w5 ⟨v5, rfl, hv5, hb5⟩; obtain ⟨a5, c5, hv5e⟩ := hv5.slice; subst hv5e));go_wp2_with fail;go_ret2;exact ⟨_, rfl, qH (qC _) hv5 (Keeps.refl _ _) (fun b h _ => zD (hBd _).size h), jG (hBd _) hb5⟩
 ·skip
  go_enter Tryz.func228, Tryz.ntmps228;go_wp2_with (go_at_call 277; refine HC1.out.mono ?_; rintro e w2 ⟨rfl, rfl⟩);go_region_held3 (fun _ => True) (trivial) ((go_at_call 239; refine (HC.out _ (hBd _) _ (jF _ _ rfl)).mono ?_; rintro e w5 ⟨v5, rfl, hv5, hb5⟩; obtain ⟨a5, c5, hv5e⟩ := hv5.slice; subst hv5e));go_wp2_with fail;go_ret2;exact ⟨_, rfl, qH (qC _) hv5 (Keeps.refl _ _) (fun b h _ => zD (hBd _).size h), jG (hBd _) hb5⟩
end Go.Proofs.YtcliojeoindceaaGreatDoor
namespace Go.Proofs.YtcliojeoindceaaGreatDoor
open Go.RowKit
open Go.Proofs.Qw
attribute [local go_sem] Oper.semAt_some
attribute [local go_sem] Oper.semAt_some
open _root_.Go.Lib renaming hid → zA
open _root_.Nat renaming le_refl → zC
open _root_.Go renaming bodyPost_ret → zM
structure Kb (n₀ base top : Nat) (W W' : World) : Prop where
 below : Below n₀ W W'
 cells : ∀ k o, base ≤ k → k < top → W.heap[k]? = some o → o.isCells = true → W'.heap[k]? = some o
theorem Kb.t {n₀ base top : Nat} {A B C : World} (h : Kb n₀ base top A B) (k : Kb n₀ base top B C) : Kb n₀ base top A C := ⟨h.below.trans k.below, fun i o hi ht ho hc => k.cells i o hi ht (h.cells i o hi ht ho hc) hc⟩
theorem Kb.of_kp {n₀ base top : Nat} {A B : World} (h : Kp n₀ base A B) : Kb n₀ base top A B := ⟨h.below, fun i o hi _ ho hc => h.cells i o hi ho hc⟩
theorem Kb.b {n₀ base top : Nat} {w : World} (hn : n₀ ≤ w.heap.size) (W : World) (l : Nat) (o o' : Obj) (hl : w.heap.size ≤ l) (h : W.heap[l]? = some o) (hc : o.isCells = false) (hw : o.isWalk = false) : Kb n₀ base top W (W.putObj l o') := .of_kp (Kp.b hn W l o o' hl h hc hw)
theorem Kb.of_below {n₀ base top : Nat} {W W' : World} (hn : n₀ ≤ W.heap.size) (hb : Below W.heap.size W W') : Kb n₀ base top W W' := .of_kp (.of_below hn hb)
theorem Kb.of_top {n₀ base top Z : Nat} {W W' : World} (hn : n₀ ≤ Z) (ht : top ≤ Z) (hb : Below Z W W') : Kb n₀ base top W W' := ⟨hb.mono hn, fun k _ _ hk h _ => (hb.block k qD).trans h⟩
theorem Kb.setCell {n₀ base top : Nat} (W : World) {B o : Nat} (h1 : n₀ ≤ B) (h2 : B < base ∨ top ≤ B) (v : Value) : Kb n₀ base top W (W.setCell ⟨B, o, none⟩ v) :=
 ⟨(Below.refl _ _).setCell h1 _, fun k u hk ht h _ => by rw [Below.heap_setCell _ _ _ _ jB]; exact h⟩
theorem zHI {P : Program} {F : Fence} {n : Nat} {α : Type} {g : Operand} {ps : Array Tmp} {assign body : Code} {Q : Exit → Act → World → Prop} {a : Act} {w : World}
  (hro : F.round = none) (h1 : 1 ≤ n) {gf : Nat} {lb : Array Value} (hg : a.eval g = .func (.func gf) #[] lb) (hFg : F.fn gf) (eg : ∀ args w, (callFunc gf args).run P w = .ok (.enter gf args) w)
  {encs : α → Array Value} {n₀ base top : Nat} {S Sp : List α → Prop} {N : Nat} {w0 : World} (hseq : SeqStopsK F (n - 1) P gf lb encs (Kb n₀ base top) S Sp N w0)
  (hn : n₀ ≤ w.heap.size) (hb0 : Below w0.heap.size w0 w) (hps : ∀ x, (encs x).size = ps.size)
  (I : List α → World → Prop) (Ix : Code → List α → World → Prop) (hI : OwnFrom w.heap.size I) (hIx : ∀ c, OwnFrom w.heap.size (Ix c)) (h0 : I [] w) (hIz : ∀ pre W, I pre W → w.heap.size ≤ W.heap.size)
  (rc : α → Array Value) (rt : TypeId) (act : Nat → α → Act)
  (hassign : ∀ (l : Nat) (pre : List α) (x : α) (W : World) (K : Act → World → Prop) (Bx : Nat), Bx = W.heap.size → I pre W → K (act Bx x) (W.alloc (.cells (rc x) rt)) →
   assign.wpIn (F.inRound l) (n - 1 - 1) P (Exit.then K (fun _ _ _ => False)) { tmps := (ps.zip (encs x)).foldl (fun t (p, v) => t.setIfInBounds p v) a.tmps, defers := [] } W)
  (hbody : ∀ (l : Nat) (pre : List α) (x : α) (Bx : Nat) (W : World), I pre W → w.heap.size ≤ Bx → W.heap[Bx]? = some (.cells (rc x) rt) → pre.length < N → body.wpIn (F.inRound l) (n - 1 - 1) P (ownPostG w.heap.size (Kb n₀ base top) I Ix (pre ++ [x]) W) (act Bx x) W)
  (hdone : ∀ (D : Nat) (xs : List α) (W : World), w.heap.size ≤ D → S xs → I xs W → W.heap[D]? = some (.deferred (some [])) → Q .normal { a with defers := { target := .collected D, args := #[] } :: a.defers } W)
  (hstop : ∀ (D : Nat) (c : Code) (pre : List α) (W : World), w.heap.size ≤ D → Sp pre → Ix c pre W → W.heap[D]? = some (.deferred (some [])) → c.wpIn F n P Q { a with defers := { target := .collected D, args := #[] } :: a.defers } W) :
  (Code.rangeFunc g ps assign body).wpIn F n P Q a w := by
 refine wpIn_rangeFunc_ownH hro h1 hg hFg eg hseq (fun h k => h.t k) (Kb.b hn) hb0 hps I Ix hI hIx h0
  (fun x a' W => ∃ Bx, w.heap.size ≤ Bx ∧ W.heap[Bx]? = some (.cells (rc x) rt) ∧ a' = act Bx x) ?_ ?_ ?_ hdone hstop
 ·intro x a' _ X Y row hs hg hr
  obtain ⟨Bx, h1, h2, h3⟩ := hs;exact ⟨Bx, h1, (hg.block Bx (Array.getElem?_eq_some_iff.1 h2).1 (fun e => by obtain ⟨_, o, ho, hc⟩ := hr Bx e.symm; rw [h2] at ho; cases ho; cases hc)).trans h2, h3⟩
 ·intro l pre x W K hi hK
  exact hassign l pre x W K _ rfl hi (hK _ _ ((KeepsOthers.alloc _ _).from _) (Kb.of_below (Nat.le_trans hn (hIz _ _ hi)) ((Below.refl _ _).alloc (zC _) _)) (hI.alloc _ hi) ⟨_, hIz _ _ hi, jF _ _ rfl, rfl⟩)
 ·intro l pre x a' W hl hr hi ha hlt
  obtain ⟨Bx, h1, h2, rfl⟩ := ha;exact hbody l pre x Bx W hi h1 h2 hlt
set_option maxRecDepth 200000 in
theorem zIS (n l Bd Ba Bb base top : Nat) (v : Value) (d : Doc) (i p j q : Nat) (S : Nat → Prop) (J Jx : List (RowX d) → World → Prop) (w0 W : World) (hv : jD w0 S v d) (hb0 : Below w0.heap.size w0 W)
  (hbase : base ≤ Bd ∧ base ≤ Ba ∧ base ≤ Bb) (htop : Bd < top ∧ Ba < top ∧ Bb < top) (hD : W.heap[Bd]? = some (.cells #[v] 22)) (hA : W.heap[Ba]? = some (.cells #[.int .i64 i, .int .i64 p] 24)) (hB : W.heap[Bb]? = some (.cells #[.int .i64 j, .int .i64 q] 24))
  (hij : i ≤ j) (hj : j < d.length) (hok : ∀ k, i ≤ k → k ≤ j → zAP d (rowB d i p j q k)) (hlen : d.length ≤ 100000) (hJ : AbidesFrom W.heap.size J)
  (hY : ∀ (pre : List (RowX d)) (x : RowX d) W, J pre W → pre.length < 200000 → YieldAt Fence.wide (n - 1) Tryz.prog l (zAe x) W fun e W' =>
   (e = .returned (.bool true) ∧ J (pre ++ [x]) W' ∧ Kb w0.heap.size base top W W') ∨ (e = .returned (.bool false) ∧ Jx (pre ++ [x]) W'))
  (h0 : J [] W) :
  CallsIn Fence.wide n Tryz.prog 296 #[.func (.yield l) #[] #[], .pointer (some ⟨Ba, 0, none⟩), .pointer (some ⟨Bb, 0, none⟩), .pointer (some ⟨Bd, 0, none⟩)] W fun e W' => (∃ v, e = .returned v) ∧
   ((∃ ys : List (RowX d), ys.map (·.1) = jY d i p j q (j + 1) ∧ J ys W') ∨ (∃ pre, True ∧ Jx pre W')) := by
 refine callsIn_of_wp Tryz.func296 rfl trivial ?_ rfl;simp only [Tryz.ntmps296, List.size_toArray, List.length_cons, List.length_nil, Nat.reduceAdd, Nat.reduceSub, Array.replicate_succ, Array.replicate_zero, List.push_toArray, List.append_toArray, List.nil_append, List.cons_append];have hwf : ∀ f, Fence.wide.fn f := fun _ => trivial;have hwd : Fence.wide.depth = none := rfl;obtain ⟨va, vc, rfl, hvc, hvm, hx⟩ := xA hv;have HX := zA hx;have HY := zA hY;have HOK := zA hok;have HJA := zA hJ;have HBK := zA (And.intro hD (And.intro hA hB));obtain ⟨p1, f1⟩ := blk hD;obtain ⟨p2, f2⟩ := blk hA;obtain ⟨p3, f3⟩ := blk hB;unfold maxLen at hvm;clear hx hv hY hok hJ hD hA hB
 gi_wp2_with fail
 clear p1 f1 p2 f2 p3 f3
 gi_loopw [5, 6, 7] (fun z _ _ wr => ∃ (k : Nat) (pre : List (RowX d)), i ≤ k ∧ k ≤ j + 1 ∧ pre.length ≤ k ∧ z = .int .i64 k ∧ Hid (pre.map (·.1) = jY d i p j q k) ∧ J pre wr ∧ Below w0.heap.size w0 wr ∧ Hid (wr.heap[Bd]? = some (.cells #[.slice va d.length vc] 22) ∧ wr.heap[Ba]? = some (.cells #[.int .i64 i, .int .i64 p] 24) ∧ wr.heap[Bb]? = some (.cells #[.int .i64 j, .int .i64 q] 24)) ∧ W.heap.size ≤ wr.heap.size)
  (fun z _ _ _ => j + 1 - (intOf z).toNat)
 case atStart => exact ⟨i, [], zC _, by omega, Nat.zero_le _, rfl, zA (zAF ..).symm, h0, hb0, HBK, zC _⟩
 case round =>
  obtain ⟨k, pre, hk1, hk2, hpl, rfl, HP, hJs, hb1, HBL, hz1⟩ := hrel;obtain ⟨p1, f1⟩ := blk HBL.out.1;obtain ⟨p2, f2⟩ := blk HBL.out.2.1;obtain ⟨p3, f3⟩ := blk HBL.out.2.2
  by_cases hlt : k ≤ j
  ·obtain ⟨l0, hl0, _⟩ := jP d k qD
   obtain ⟨b, o, la, lc, ca, cc, rfl, hAk⟩ := HX.out k l0 hl0;obtain ⟨_, c0, c1, c2, c3, _, _⟩ := hAk.below hb1;have HL0 := zA (zBc d (i := i) (p := p) (j := j) (q := q) hl0);have hd1 : Below wr.heap.size wr wr.drew := (Below.refl _ _).drew;have HD1 := zA hd1;have HJ1 := zA (zAU (X := wr) (Y := wr.drew) HJA.out hJs hd1);have i0 : (0 : Int) ≤ (k : Int) := Int.natCast_nonneg _;have i1 : (k : Int) < (d.length : Int) := by omega
   have hNext : ∀ w7, J (pre ++ [⟨rowB d i p j q k, HOK.out k hk1 hlt⟩]) w7 → Kb w0.heap.size base top wr.drew w7 → ∃ (k' : Nat) (pre : List (RowX d)), i ≤ k' ∧ k' ≤ j + 1 ∧ pre.length ≤ k' ∧ k' = k + 1 ∧ Hid (pre.map (·.1) = jY d i p j q k') ∧ J pre w7 ∧ Below w0.heap.size w0 w7 ∧ Hid (w7.heap[Bd]? = some (.cells #[.slice (some ⟨b, o, none⟩) d.length vc] 22) ∧ w7.heap[Ba]? = some (.cells #[.int .i64 i, .int .i64 p] 24) ∧ w7.heap[Bb]? = some (.cells #[.int .i64 j, .int .i64 q] 24)) ∧ W.heap.size ≤ w7.heap.size := by
    intro w7 hj7 hk7;refine ⟨k + 1, _, by omega, by omega, by simp; omega, rfl, zA ?_, hj7, (jG hb1 HD1.out).trans hk7.below, zA ⟨hk7.cells _ _ hbase.1 htop.1 HBL.out.1 rfl, hk7.cells _ _ hbase.2.1 htop.2.1 HBL.out.2.1 rfl, hk7.cells _ _ hbase.2.2 htop.2.2 HBL.out.2.2 rfl⟩, Nat.le_trans hz1 hk7.below.size⟩;rw [zAC d hk1, List.map_append, HP.out]
    rfl
   have HNX := zA hNext;have hYY := HY.out pre ⟨rowB d i p j q k, HOK.out k hk1 hlt⟩ wr.drew HJ1.out qD;have hrow : zAe (⟨rowB d i p j q k, HOK.out k hk1 hlt⟩ : RowX d) = #[.int .i64 k, .agg #[.int .i64 ((if k = i then p else 0 : Nat) : Int), .int .i64 ((if k = j then q else l0.cells.length : Nat) : Int)]] := by unfold zAe; simp only [HL0.out]
   rw [hrow] at hYY;clear hAk hl0 hNext hJs HJ1 HL0 hrow;rcases (show k = i ∧ k = j ∨ k = i ∧ ¬ k = j ∨ ¬ k = i ∧ k = j ∨ ¬ k = i ∧ ¬ k = j by omega) with ⟨e1, e2⟩ | ⟨e1, e2⟩ | ⟨e1, e2⟩ | ⟨e1, e2⟩
   ·rw [if_pos e1, if_pos e2] at hYY
    have hq1 : ((k : Int) == (i : Int)) = true := by simp; omega
    have hq2 : ((k : Int) == (j : Int)) = true := by simp; omega
    have hq3 : decide ((k : Int) ≤ (j : Int)) = true := by simp; omega
    try rw [show ((0 : Nat) : Int) = 0 from rfl] at hYY
    obtain ⟨fn, tmps, assign, body, hy, hR⟩ := hYY;clear e1 e2
    gi_wp2_with fail
    gi_region
    gi_wp2_with fail
    refine hR.mono ?_;rintro e w7 (⟨rfl, hJ7, hk7⟩ | ⟨rfl, hJx7⟩)
    ·gi_wp2_with fail
     obtain ⟨k', pre', g1, g2, g3, e3, g4, g5, g6, g7, g8⟩ := HNX.out w7 hJ7 hk7;go_roundw
     case rel => exact ⟨k', pre', g1, g2, g3, by rw [e3]; go_num, g4, g5, g6, g7, g8⟩
     case measure => simp [intOf]; omega
    ·gi_wp2_with fail
     refine zM (results_none rfl _ _ _) rfl ?_;exact ⟨⟨_, rfl⟩, .inr ⟨_, trivial, hJx7⟩⟩
   ·rw [if_pos e1, if_neg e2] at hYY
    have hq1 : ((k : Int) == (i : Int)) = true := by simp; omega
    have hq2 : ((k : Int) == (j : Int)) = false := by simp; omega
    have hq3 : decide ((k : Int) ≤ (j : Int)) = true := by simp; omega
    try rw [show ((0 : Nat) : Int) = 0 from rfl] at hYY
    obtain ⟨fn, tmps, assign, body, hy, hR⟩ := hYY;clear e1 e2
    gi_wp2_with fail
    gi_region
    gi_wp2_with fail
    refine hR.mono ?_;rintro e w7 (⟨rfl, hJ7, hk7⟩ | ⟨rfl, hJx7⟩)
    ·gi_wp2_with fail
     obtain ⟨k', pre', g1, g2, g3, e3, g4, g5, g6, g7, g8⟩ := HNX.out w7 hJ7 hk7;go_roundw
     case rel => exact ⟨k', pre', g1, g2, g3, by rw [e3]; go_num, g4, g5, g6, g7, g8⟩
     case measure => simp [intOf]; omega
    ·gi_wp2_with fail
     refine zM (results_none rfl _ _ _) rfl ?_;exact ⟨⟨_, rfl⟩, .inr ⟨_, trivial, hJx7⟩⟩
   ·rw [if_neg e1, if_pos e2] at hYY
    have hq1 : ((k : Int) == (i : Int)) = false := by simp; omega
    have hq2 : ((k : Int) == (j : Int)) = true := by simp; omega
    have hq3 : decide ((k : Int) ≤ (j : Int)) = true := by simp; omega
    try rw [show ((0 : Nat) : Int) = 0 from rfl] at hYY
    obtain ⟨fn, tmps, assign, body, hy, hR⟩ := hYY;clear e1 e2
    gi_wp2_with fail
    gi_region
    gi_wp2_with fail
    refine hR.mono ?_;rintro e w7 (⟨rfl, hJ7, hk7⟩ | ⟨rfl, hJx7⟩)
    ·gi_wp2_with fail
     obtain ⟨k', pre', g1, g2, g3, e3, g4, g5, g6, g7, g8⟩ := HNX.out w7 hJ7 hk7;go_roundw
     case rel => exact ⟨k', pre', g1, g2, g3, by rw [e3]; go_num, g4, g5, g6, g7, g8⟩
     case measure => simp [intOf]; omega
    ·gi_wp2_with fail
     refine zM (results_none rfl _ _ _) rfl ?_;exact ⟨⟨_, rfl⟩, .inr ⟨_, trivial, hJx7⟩⟩
   ·rw [if_neg e1, if_neg e2] at hYY
    have hq1 : ((k : Int) == (i : Int)) = false := by simp; omega
    have hq2 : ((k : Int) == (j : Int)) = false := by simp; omega
    have hq3 : decide ((k : Int) ≤ (j : Int)) = true := by simp; omega
    try rw [show ((0 : Nat) : Int) = 0 from rfl] at hYY
    obtain ⟨fn, tmps, assign, body, hy, hR⟩ := hYY;clear e1 e2
    gi_wp2_with fail
    gi_region
    gi_wp2_with fail
    refine hR.mono ?_;rintro e w7 (⟨rfl, hJ7, hk7⟩ | ⟨rfl, hJx7⟩)
    ·gi_wp2_with fail
     obtain ⟨k', pre', g1, g2, g3, e3, g4, g5, g6, g7, g8⟩ := HNX.out w7 hJ7 hk7;go_roundw
     case rel => exact ⟨k', pre', g1, g2, g3, by rw [e3]; go_num, g4, g5, g6, g7, g8⟩
     case measure => simp [intOf]; omega
    ·gi_wp2_with fail
     refine zM (results_none rfl _ _ _) rfl ?_;exact ⟨⟨_, rfl⟩, .inr ⟨_, trivial, hJx7⟩⟩
  ·obtain rfl : k = j + 1 := by omega
   gi_wp2_with fail
   go_end0;exact ⟨⟨_, rfl⟩, .inl ⟨pre, HP.out, hJs⟩⟩
theorem zEz {F : Fence} {m : Nat} {P : Program} (w : World) {ops : Array Oper} {rest : List Oper} {o : Oper} {a : Act} {Q : Exit → Act → World → Prop} (hgd : o.guard = none) (s x : Operand) (st tx : TypeId)
  (ho : o.op = .call { callee := .builtin .append, args := #[s, x], argTypes := #[st, tx] }) {t : TypeId} {k : Nat} (hT : RowT P st t k) {α : Type} {R : Rd α} (hE : Elt t k R) (n : Nat) (v y : Value) {xs ys : List α} {news : List Value} (hs : a.eval s = v) (hx : a.eval x = y)
  (h1 : SliceR t k R true w (fun b => n ≤ b) v xs) (hn : n ≤ w.heap.size) (hsrc : Src P k tx y ys.length news w) (hnew : NewsR k R w (fun b => n ≤ b) news ys) (hlen : xs.length + ys.length ≤ 100000000)
  (h : ∀ v' w', SliceR t k R true w' (fun b => n ≤ b) v' (xs ++ ys) → Below n w w' → w.grownBy w' v.ownBlock → (v'.ownBlock = v.ownBlock ∨ v'.ownBlock = some w.heap.size) → wpListIn F m P ops Q rest (a.put o.dst v') w') :
  wpListIn F m P ops Q (o :: rest) a w := by
 refine wpListIn_plain hgd fun K hK => ?_;obtain ⟨v', w', hr, h2, h3, h4, h5⟩ := zEb (P := P) (ty := o.type) hT hE h1 hn hsrc hnew hlen;unfold Oper.wpIn;refine ⟨?_, ?_⟩
 ·simp [Oper.about, ho, resolve, Target.leads, Sem.run_pure]
 ·rw [Oper.semAt_plain F _ _ (by rw [ho]; intro c hc'; cases hc')]
  simp [execOp, ho, resolve, invoke, builtin, hs, hx, hr, Result.andThen];exact hK _ _ (h v' w' h2 h3 h4 h5)
theorem zFd {α : Type} {t : TypeId} {k : Nat} {R : Rd α} {w w' : World} {S : Nat → Prop} {v : Value} {xs : List α} (h : SliceR t k R true w S v xs) (hne : v = .slice none 0 0 ∨ xs ≠ []) (hg : w.grownBy w' v.ownBlock) : KeepsOthers w w' :=
 KeepsOthers.of_grownBy hg fun j o ej hj => by
  obtain ⟨a, c, rfl, _, _, hx⟩ := h;rcases hx with ⟨rfl, hc0⟩ | ⟨b, o', rfl, _, _, hf, _⟩
  ·rcases hne with e | e
   ·cases e
    cases ej
   ·exact absurd rfl e
  ·obtain ⟨cs, h1, _⟩ := hf rfl
   have ej : some b = some j := ej;cases ej;rw [h1] at hj;cases hj
   rfl
end Go.Proofs.YtcliojeoindceaaGreatDoor
