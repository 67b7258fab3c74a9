/- Parts of the proof. -/
import Derived.Test.YtjgeadoncanheaaGreatDoorDocEachN
import Derived.Test.YtjgeadoncanheaaGreatDoorDocDeleteN
import Derived.Test.YtjgeadoncanheaaGreatDoorLaidN
import Derived.Deep.RegionHeld3
import Derived.Deep.DrawnRows
import Derived.Test.YtjgeadoncanheaaGreatDoorAttrWalkN
import Derived.Deep.Cut
import Derived.Deep.CutRange
set_option linter.unusedVariables false
set_option linter.unusedSimpArgs false
set_option maxHeartbeats 8000000
namespace Go.Proofs.YtjgeadoncanheaaGreatDoor
open Go.RowKit
open Go.Proofs.Qw
open _root_.Go.Lib renaming hid → zA
open _root_.Go.Proofs.Tryz renaming prog → zV
open _root_.Go.Proofs.Qw renaming jW → zZ
theorem DocSaid.from {x : Doc × Int} {w W : World} {e : Ending} {w' : World} (h : DocSaid x W e w') (hb : Below w.heap.size w W) : DocSaid x w e w' := by
 obtain ⟨v', h1, h2, h3⟩ := h;exact ⟨v', h1, SliceR.stable (zZ true) h2 (Keeps.refl _ _) (fun b h _ => Nat.le_trans hb.size h), jF hb h3⟩
theorem zFw {F : Cel → Cel} {cs : List Cel} {i j : Nat} (hij : i ≤ j) (hj : j ≤ cs.length) : kV F cs i j = (kU F i j cs, 0) := by
 unfold kV vY;rw [if_pos jB]
 simp
theorem zHW (v : Value) (cs : List Cel) (i j s c : Int) (b1 b2 : Nat) (w : World) (S : Nat → Prop) (own : Bool) (h : jC own w S v cs) (hs : cs.length ≤ 1000000) (h1 : w.heap[b1]? = some (.cells #[.int .i64 s] 3)) (h2 : w.heap[b2]? = some (.cells #[.int .i64 c] 3)) :
  Calls zV 190 #[v, .int .i64 i, .int .i64 j, .pointer (some ⟨b1, 0, none⟩), .pointer (some ⟨b2, 0, none⟩)] w (CellsSaid (kV (yU s c) cs i j).1 (kV (yU s c) cs i j).2 w) := by
 have HC := zA (zHn v cs i j s c w S own h hs);obtain ⟨a, cc, rfl⟩ := h.slice;obtain ⟨p1, f1⟩ := blk h1;obtain ⟨p2, f2⟩ := blk h2
 generalize kV (yU s c) cs i j = r at *
 clear h h1 h2;go_enter Tryz.func190, Tryz.ntmps190;go_wp2_with (go_at_call 191; refine HC.out.mono ?_; intro e w2 hsaid; obtain ⟨v', rfl, hv', hb'⟩ := hsaid);go_ret2;exact ⟨_, rfl, hv', hb'⟩
theorem zHl (v : Value) (cs : List Cel) (i j : Int) (hr : List UInt8) (b1 : Nat) (w : World) (S : Nat → Prop) (own : Bool) (h : jC own w S v cs) (hs : cs.length ≤ 1000000) (he : EnvT w) (hh : hr.length ≤ 1000000) (h1 : w.heap[b1]? = some (.cells #[.string ⟨hr.toArray⟩] 9)) :
  Calls zV 188 #[v, .int .i64 i, .int .i64 j, .pointer (some ⟨b1, 0, none⟩)] w (CellsSaid (uM hr cs i j).1 (uM hr cs i j).2 w) := by
 have HC := zA (zGG v cs i j hr w S own h hs he hh);obtain ⟨a, cc, rfl⟩ := h.slice;obtain ⟨p1, f1⟩ := blk h1
 generalize uM hr cs i j = r at *
 clear h h1 he hh;go_enter Tryz.func188, Tryz.ntmps188;go_wp2_with (go_at_call 189; refine HC.out.mono ?_; intro e w2 hsaid; obtain ⟨v', rfl, hv', hb'⟩ := hsaid);go_ret2;exact ⟨_, rfl, hv', hb'⟩
def setD (s c : Int) (d : Doc) (a b : Ps) : Doc × Int := yR (fun cs i j => kU (yU s c) i j cs) d a b
set_option maxRecDepth 100000 in
theorem zEK (v : Value) (d : Doc) (a b : Ps) (s c : Int) (w : World) (S : Nat → Prop) (h : jE w S v d) (he : EnvT w) (hs : Small d) (hf : Fits d) :
  Calls zV 130 #[v, posV a, posV b, .int .i64 s, .int .i64 c] w (DocSaid (setD s c d a b) w) := by
 obtain ⟨W1, hW1⟩ : ∃ W1, (((w.alloc (.cells #[.int .i64 a.line, .int .i64 a.col] 24)).alloc (.cells #[.int .i64 b.line, .int .i64 b.col] 24)).alloc (.cells #[.int .i64 s] 3)).alloc (.cells #[.int .i64 c] 3) = W1 := ⟨_, rfl⟩;have hB : Below w.heap.size w W1 := hW1 ▸ ((((Below.refl _ _).alloc (Nat.le_refl _) _).alloc qE _).alloc jB _).alloc jB _;have k0 : W1.heap[w.heap.size]? = some (.cells #[.int .i64 a.line, .int .i64 a.col] 24) := hW1 ▸ jH _ _ (jH _ _ (jH _ _ (jD _ _ rfl)));have k1 : W1.heap[w.heap.size + 1]? = some (.cells #[.int .i64 b.line, .int .i64 b.col] 24) := hW1 ▸ jH _ _ (jH _ _ (jD _ _ qE));have k2 : W1.heap[w.heap.size + 2]? = some (.cells #[.int .i64 s] 3) := hW1 ▸ jH _ _ (jD _ _ qE);have k3 : W1.heap[w.heap.size + 3]? = some (.cells #[.int .i64 c] 3) := hW1 ▸ jD _ _ qE
 have HC := zA (zEm v d a b 190 #[.pointer (some ⟨w.heap.size + 2, 0, none⟩), .pointer (some ⟨w.heap.size + 3, 0, none⟩)] (fun cs i j => kU (yU s c) i j cs) W1 S (h.below (zZ _) hB) (he.below hB) hs hf (fun c i j => zBF _ _ _ _)
  (enters_of Tryz.func190 zT rfl) (fun W v cs i j hW hv hij hj hl => by
   have := zHW v cs i j s c (w.heap.size + 2) (w.heap.size + 3) W _ true hv hl (jG hW k2) (jG hW k3);rw [zFw hij hj] at this;exact this))
 have HP : Hid (∀ p : Ps, posV p = .agg #[.int .i64 p.line, .int .i64 p.col]) := zA fun _ => rfl;have HR : Hid (setD s c d a b = yR (fun cs i j => kU (yU s c) i j cs) d a b) := zA rfl;have H1 := zA hB;obtain ⟨p1, f1⟩ := blk k0;obtain ⟨p2, f2⟩ := blk k1;obtain ⟨va, vc, rfl⟩ := h.slice
 generalize yR (fun cs i j => kU (yU s c) i j cs) d a b = r at *
 clear h he hs hf k0 k1 k2 k3 hB;rw [HP.out a, HP.out b] at HC ⊢;go_enter Tryz.func130, Tryz.ntmps130;go_wp2_with (go_at_call 187; refine HC.out.mono ?_; intro e w2 hsaid; have hsaid := DocSaid.from hsaid H1.out; obtain ⟨v', rfl, hv', hb'⟩ := hsaid);go_ret2;rw [HR.out];exact ⟨_, rfl, hv', hb'⟩
def vC (hr : List UInt8) (d : Doc) (a b : Ps) : Doc × Int := if xP hr = true then yR (fun cs i j => kU (yD hr) i j cs) d a b else ([], 1)
set_option maxRecDepth 100000 in
theorem zEl (v : Value) (d : Doc) (a b : Ps) (hr : List UInt8) (w : World) (S : Nat → Prop) (h : jE w S v d) (he : EnvT w) (hs : Small d) (hf : Fits d) (hh : hr.length ≤ 1000000) :
  Calls zV 127 #[v, posV a, posV b, .string ⟨hr.toArray⟩] w (DocSaid (vC hr d a b) w) := by
 obtain ⟨W1, hW1, hB, hz, k0, k1, k2⟩ := zCD w (.int .i64 a.line) (.int .i64 a.col) (.int .i64 b.line) (.int .i64 b.col) (.string ⟨hr.toArray⟩) 9;have HB : Hid (∀ W, Below W1.heap.size W1 W → W.heap[w.heap.size]? = some (.cells #[.int .i64 a.line, .int .i64 a.col] 24) ∧ W.heap[w.heap.size + 1]? = some (.cells #[.int .i64 b.line, .int .i64 b.col] 24)) := zA fun W hW => ⟨jG hW k0, jG hW k1⟩;have HT : Hid (Calls zV 126 #[.string ⟨hr.toArray⟩] W1 fun e w' => e = .returned (.bool (xR hr)) ∧ Below W1.heap.size W1 w') := zA (zCL ⟨hr.toArray⟩ W1 (he.below hB) zDv)
 have HC : Hid (xP hr = true → ∀ W, Below W1.heap.size W1 W → Calls zV 187 #[v, posV a, posV b, .func (.func 188) #[] #[.pointer (some ⟨w.heap.size + 2, 0, none⟩)]] W (DocSaid (yR (fun cs i j => kU (yD hr) i j cs) d a b) W)) := zA fun hlk W hW =>
  zEm v d a b 188 #[.pointer (some ⟨w.heap.size + 2, 0, none⟩)] (fun cs i j => kU (yD hr) i j cs) W S ((h.below (zZ _) hB).below (zZ _) hW) ((he.below hB).below hW) hs hf (fun c i j => zBF _ _ _ _)
   (enters_of Tryz.func188 zT rfl) (fun X v cs i j hX hv hij hj hl => by
    have := zHl v cs i j hr (w.heap.size + 2) X _ true hv hl (((he.below hB).below hW).below hX) hh (jG hX (jG hW k2));unfold uM at this;rw [if_pos hlk, zFw hij hj] at this;exact this)
 have HP : Hid (∀ p : Ps, posV p = .agg #[.int .i64 p.line, .int .i64 p.col]) := zA fun _ => rfl;have HR : Hid (vC hr d a b = if xP hr = true then yR (fun cs i j => kU (yD hr) i j cs) d a b else ([], 1)) := zA rfl;have HL : Hid (xP hr = (decide (hr = []) || xR hr)) := zA rfl;have H1 := zA hB;have hs1 := hB.size;have hw1 : Below W1.heap.size W1 W1 := Below.refl _ _;obtain ⟨p1, f1⟩ := blk k0;obtain ⟨p2, f2⟩ := blk k1;obtain ⟨p3, f3⟩ := blk k2;obtain ⟨va, vc, rfl⟩ := h.slice
 generalize yR (fun cs i j => kU (yD hr) i j cs) d a b = r at *
 clear h he hs hf k0 k1 k2 hB hh;rw [HP.out a, HP.out b] at HC ⊢
 by_cases hn : hr = []
 ·have HC := zA (HC.out (by rw [HL.out, decide_eq_true hn]; rfl))
  have HR : Hid (vC hr d a b = r) := zA (HR.out.trans (if_pos (by rw [HL.out, decide_eq_true hn]; rfl)));have hne : hr.isEmpty = true := by simpa using hn
  clear hn;go_enter Tryz.func127, Tryz.ntmps127;go_wp2_with (go_at_call 187; refine (HC.out _ hw1).mono ?_; intro e w2 hsaid; have hsaid := DocSaid.from hsaid H1.out; obtain ⟨v', rfl, hv', hb'⟩ := hsaid);go_ret2;rw [HR.out];exact ⟨_, rfl, hv', hb'⟩
 ·have hne : hr.isEmpty = false := by simpa using hn
  cases htg : xR hr
  ·have HR : Hid (vC hr d a b = ([], 1)) := zA (HR.out.trans (if_neg (by rw [HL.out, decide_eq_false hn, htg]; simp)))
   rw [htg] at HT;clear htg;go_enter Tryz.func127, Tryz.ntmps127;go_wp2_with (go_at_call 126; refine HT.out.mono ?_; rintro e w2 ⟨rfl, hb2⟩);go_ret2;unfold DocSaid;rw [HR.out];exact ⟨_, rfl, SliceR.nil _ _ _ _ _ _, H1.out.trans (hb2.mono hs1)⟩
  ·have hlk : xP hr = true := by rw [HL.out, htg]; simp
   have HC := zA (HC.out hlk);have HR : Hid (vC hr d a b = r) := zA (HR.out.trans (if_pos hlk));rw [htg] at HT;clear htg hlk;go_enter Tryz.func127, Tryz.ntmps127;go_wp2_with (first | (go_at_call 126; refine HT.out.mono ?_; rintro e w2 ⟨rfl, hb2⟩; obtain ⟨q1, g1⟩ := blk (HB.out _ hb2).1; obtain ⟨q2, g2⟩ := blk (HB.out _ hb2).2) | (go_at_call 187; refine (HC.out _ hb2).mono ?_; intro e w3 hsaid; have hsaid := DocSaid.from hsaid (H1.out.trans (hb2.mono hs1)); obtain ⟨v', rfl, hv', hb'⟩ := hsaid));go_ret2;rw [HR.out];exact ⟨_, rfl, hv', hb'⟩
end Go.Proofs.YtjgeadoncanheaaGreatDoor
namespace Go.Proofs.Qw
open Go.RowKit Go.Proofs.YtjgeadoncanheaaGreatDoor
structure St where
 lines : Doc
 anc : Ps
 foc : Ps
 on : Int
 off : Int
 deriving DecidableEq, Inhabited
def noS : St := ⟨[], ⟨0, 0⟩, ⟨0, 0⟩, 0, 0⟩
def mayS (s : St) : Bool := mayD s.lines && (isD s.lines s.anc && (isD s.lines s.foc && (bits .andNot .i64 s.on 15 == 0 && (bits .andNot .i64 s.off 15 == 0 && bits .and .i64 s.on s.off == 0))))
def qU (s : St) : Ps × Ps := if 0 < cmpP s.anc s.foc then (s.foc, s.anc) else (s.anc, s.foc)
abbrev stV (v : Value) (s : St) : Value := .agg #[v, .int .i64 s.anc.line, .int .i64 s.anc.col, .int .i64 s.foc.line, .int .i64 s.foc.col, .int .i64 s.on, .int .i64 s.off]
theorem vU (w : World) (v : Value) (s : St) : ∃ W1, w.alloc (.cells #[v, .int .i64 s.anc.line, .int .i64 s.anc.col, .int .i64 s.foc.line, .int .i64 s.foc.col, .int .i64 s.on, .int .i64 s.off] 26) = W1 ∧ Below w.heap.size w W1 ∧ w.heap.size + 1 = W1.heap.size ∧
  W1.heap[w.heap.size]? = some (.cells #[v, .int .i64 s.anc.line, .int .i64 s.anc.col, .int .i64 s.foc.line, .int .i64 s.foc.col, .int .i64 s.on, .int .i64 s.off] 26) :=
 ⟨_, rfl, (Below.refl _ _).alloc (Nat.le_refl _) _, by simp, jD _ _ rfl⟩
def StSaid (x : St × Int) (w : World) (e : Ending) (w' : World) : Prop := ∃ v', e = .returned (.tuple #[stV v' x.1, .int .i64 x.2]) ∧ DocR true w' (fun b => w.heap.size ≤ b) v' x.1.lines ∧ Below w.heap.size w w'
theorem StSaid.from {x : St × Int} {w W : World} {e : Ending} {w' : World} (h : StSaid x W e w') (hb : Below w.heap.size w W) : StSaid x w e w' := by
 obtain ⟨v', h1, h2, h3⟩ := h;exact ⟨v', h1, SliceR.stable (jW true) h2 (Keeps.refl _ _) (fun b h _ => Nat.le_trans hb.size h), jF hb h3⟩
theorem yG {w W : World} (h : Below w.heap.size w W) (X : Obj) : Below w.heap.size w (W.alloc X) := h.alloc h.size X
theorem uI {w W : World} (h : Below w.heap.size w W) (X Y : Obj) : Below w.heap.size w ((W.alloc X).alloc Y) := yG (yG h X) Y
theorem zBq {w W : World} (h : Below w.heap.size w W) (X Y Z : Obj) : Below w.heap.size w (((W.alloc X).alloc Y).alloc Z) := yG (uI h X Y) Z
theorem on1 {w : World} {B : Nat} {cs : Array Value} {t : TypeId} (h : w.heap[B]? = some (.cells cs t)) : ∀ X k, (w.alloc X).cell? ⟨B, k, none⟩ = cs[k]? := fun X _ => jR (jH _ X h)
theorem on2 {w : World} {B : Nat} {cs : Array Value} {t : TypeId} (h : w.heap[B]? = some (.cells cs t)) : ∀ X Y k, ((w.alloc X).alloc Y).cell? ⟨B, k, none⟩ = cs[k]? := fun X Y _ => jR (jH _ Y (jH _ X h))
theorem zFN (a b : Ps) : (0 < cmpP a b) = (cmpP b a < 0) := by
 obtain ⟨a, c⟩ := a;obtain ⟨b, d⟩ := b;simp only [cmpP, cmpI, eq_iff_iff, ne_eq]
 split <;> split <;> (try split) <;> (try split) <;> (try split) <;> (try split) <;> simp_all <;> omega
end Go.Proofs.Qw
namespace Go.Proofs.YtjgeadoncanheaaGreatDoor
open Go.RowKit
open Go.Proofs.Qw
theorem zAY {fn : Func} {p u : Tmp} (h : fn.results = #[.cell p 24, .cell u 24]) (tmps : Array Value) (w : World) (B C : Nat) (a b c d : Value) (hp : tmps.getD p undef = .pointer (some ⟨B, 0, none⟩)) (hu : tmps.getD u undef = .pointer (some ⟨C, 0, none⟩))
  (h1 : w.heap[B]? = some (.cells #[a, b] 24)) (h2 : w.heap[C]? = some (.cells #[c, d] 24)) : (results fn tmps).run Tryz.prog w = .ok (.tuple #[.agg #[a, b], .agg #[c, d]]) w := by
 have hp' : tmps[p]?.getD undef = .pointer (some ⟨B, 0, none⟩) := by simpa using hp
 have hu' : tmps[u]?.getD undef = .pointer (some ⟨C, 0, none⟩) := by simpa using hu
 have e1 := run_loadVar_row (P := Tryz.prog) w B 24 24 _ _ _ h1 Tryz.underlying24 rfl zT;have e2 := run_loadVar_row (P := Tryz.prog) w C 24 24 _ _ _ h2 Tryz.underlying24 rfl zT;simp [results, h, hp', hu', asAddr, e1, e2]
theorem zEv {fn : Func} {p : Tmp} (h : fn.results = #[.cell p 26]) (tmps : Array Value) (w : World) (B : Nat) (a b c d e f g : Value) (hp : tmps.getD p undef = .pointer (some ⟨B, 0, none⟩)) (hg : w.heap[B]? = some (.cells #[a, b, c, d, e, f, g] 26)) :
  (results fn tmps).run Tryz.prog w = .ok (.agg #[a, b, c, d, e, f, g]) w :=
 results_cell_row h tmps w B _ _ _ _ hp hg Tryz.underlying26 rfl zT
theorem zDh (w : World) (v : Value) (s : St) : ∃ W1, ((w.alloc (.cells #[v, .int .i64 s.anc.line, .int .i64 s.anc.col, .int .i64 s.foc.line, .int .i64 s.foc.col, .int .i64 s.on, .int .i64 s.off] 26)).alloc (.cells #[.int .i64 0, .int .i64 0] 24)).alloc (.cells #[.int .i64 0, .int .i64 0] 24) = W1 ∧ Below w.heap.size w W1 ∧ w.heap.size + 3 = W1.heap.size ∧
  W1.heap[w.heap.size]? = some (.cells #[v, .int .i64 s.anc.line, .int .i64 s.anc.col, .int .i64 s.foc.line, .int .i64 s.foc.col, .int .i64 s.on, .int .i64 s.off] 26) ∧ W1.heap[w.heap.size + 1]? = some (.cells #[.int .i64 0, .int .i64 0] 24) ∧ W1.heap[w.heap.size + 2]? = some (.cells #[.int .i64 0, .int .i64 0] 24) :=
 ⟨_, rfl, (((Below.refl _ _).alloc (Nat.le_refl _) _).alloc qE _).alloc jB _, by simp, jH _ _ (jH _ _ (jD _ _ rfl)), jH _ _ (jD _ _ qE), jD _ _ qE⟩
theorem xE (w : World) (v : Value) (s : St) : ∃ W1, (w.alloc (.cells #[v, .int .i64 s.anc.line, .int .i64 s.anc.col, .int .i64 s.foc.line, .int .i64 s.foc.col, .int .i64 s.on, .int .i64 s.off] 26)).alloc (.cells #[.slice none 0 0, .int .i64 0, .int .i64 0, .int .i64 0, .int .i64 0, .int .i64 0, .int .i64 0] 26) = W1 ∧ Below w.heap.size w W1 ∧ w.heap.size + 2 = W1.heap.size ∧
  W1.heap[w.heap.size]? = some (.cells #[v, .int .i64 s.anc.line, .int .i64 s.anc.col, .int .i64 s.foc.line, .int .i64 s.foc.col, .int .i64 s.on, .int .i64 s.off] 26) ∧ W1.heap[w.heap.size + 1]? = some (.cells #[.slice none 0 0, .int .i64 0, .int .i64 0, .int .i64 0, .int .i64 0, .int .i64 0, .int .i64 0] 26) :=
 ⟨_, rfl, ((Below.refl _ _).alloc (Nat.le_refl _) _).alloc qE _, by simp, jH _ _ (jD _ _ rfl), jD _ _ qE⟩
end Go.Proofs.YtjgeadoncanheaaGreatDoor
namespace Go.Proofs.YtjgeadoncanheaaGreatDoor
open Go.RowKit
open Go.Proofs.Qw
attribute [local go_sem] Oper.semAt_some
open _root_.Go.Lib renaming hid → zA
open _root_.Go.Proofs.Tryz renaming prog → zV
def zER (d : Doc) (ts : List ByteArray) (w : World) (e : Ending) (w' : World) : Prop := ∃ r, e = .returned (.bool r) ∧ (r = false → Sml d ∧ ∀ t ∈ ts, t.size ≤ 10000) ∧ Below w.heap.size w w'
set_option maxRecDepth 100000 in
theorem zIB (v : Value) (s : St) (ta : Option Addr) (ts : List ByteArray) (w : World) (S : Nat → Prop) (h : jE w S v s.lines) (sn : Sane s.lines) (hts : ts.length ≤ 10)
  (ht : ∀ i t, ts[i]? = some t → ∃ b o, ta = some ⟨b, o, none⟩ ∧ b < w.heap.size ∧ w.cell? ⟨b, o + i, none⟩ = some (.string t)) :
  Calls zV 5 #[stV v s, .slice ta ts.length ts.length] w (zER s.lines ts w) := by
 obtain ⟨W1, hW1, hB, hz, k0⟩ := vU w v s;have HB : Hid (∀ W, Below W1.heap.size W1 W → W.heap[w.heap.size]? = some (.cells #[v, .int .i64 s.anc.line, .int .i64 s.anc.col, .int .i64 s.foc.line, .int .i64 s.foc.col, .int .i64 s.on, .int .i64 s.off] 26)) := zA fun W hW => jG hW k0;have HC := zA fun W (hW : Below W1.heap.size W1 W) => zHI v s.lines W S ((h.below (jW _) hB).below (jW _) hW) sn;have H1 := zA hB;have hs1 := hB.size
 have HT : Hid (∀ W, Below w.heap.size w W → ∀ i t, ts[i]? = some t → ∃ b o, ta = some ⟨b, o, none⟩ ∧ W.cell? ⟨b, o + i, none⟩ = some (.string t)) := zA fun W hW i t hi => by
  obtain ⟨b, o, h1, h2, h3⟩ := ht i t hi;exact ⟨b, o, h1, (hW.cell (p := ⟨b, o + i, none⟩) h2).trans h3⟩
 obtain ⟨p0, f0⟩ := blk k0;obtain ⟨va, vc, rfl⟩ := h.slice;clear h sn k0 hB ht;go_enter Tryz.func5, Tryz.ntmps5;go_wp2_with fail;go_loopw [5] (fun i wr => ∃ j : Nat, j ≤ ts.length ∧ i = .int .i64 j ∧ wr = W1 ∧ Hid (∀ t ∈ ts.take j, t.size ≤ 10000)) (fun i _ => ts.length - (intOf i).toNat)
 case atStart => exact ⟨0, by omega, rfl, rfl, zA qE⟩
 case round =>
  obtain ⟨j, hj, rfl, rfl, HT0⟩ := hrel
  by_cases hlt : j < ts.length
  ·obtain ⟨t, hjt, _⟩ := jO ts j hlt
   obtain ⟨b, o, rfl, hc⟩ := HT.out _ H1.out j t hjt;have hlt' : (j : Int) < (ts.length : Int) := by omega
   have hj0 : (0 : Int) ≤ (j : Int) := Int.natCast_nonneg _;have HJ := zA hjt
   by_cases hsz : 10000 < t.size
   ·have hsz' : (10000 : Int) < (t.size : Int) := by omega
    clear hsz hjt;go_wp2_with fail;go_ret;exact ⟨true, rfl, (fun e => by cases e), H1.out⟩
   ·have hsz' : ¬ (10000 : Int) < (t.size : Int) := by omega
    have HSZ := zA hsz;clear hsz hjt;go_wp2_with fail;go_roundw
    case rel => exact ⟨j + 1, by omega, by go_num, trivial, zA (fun x hx => by
     rw [xQ HJ.out] at hx;rcases List.mem_append.1 hx with hx | hx
     ·exact HT0.out x hx
     ·simp at hx; subst hx; have := HSZ.out; omega)⟩
    case measure => simp [intOf]; omega
  ·obtain rfl : j = ts.length := by omega
   go_wp2_with (go_at_call 19; refine (HC.out _ (Below.refl _ _)).mono ?_; rintro e w1 ⟨r, rfl, hr, hb⟩);go_ret;exact ⟨r, rfl, fun e => ⟨hr e, by have := HT0.out; rwa [List.take_length] at this⟩, H1.out.trans (hb.mono hs1)⟩
theorem zCY (f : Fn) (caps : Array Value) (w : World) : Calls zV 68 #[.func f #[] caps] w fun e w' => e = .returned (.func (.func 113) #[] #[.pointer (some ⟨w.heap.size, 0, none⟩)]) ∧ w' = w.alloc (.cells #[.func f #[] caps] 93) := by
 go_enter Tryz.func68, Tryz.ntmps68;go_wp2_with fail;go_ret;exact ⟨rfl, rfl⟩
theorem zHJ (b : Int) (w : World) : Calls zV 73 #[.int .i64 b] w fun e w' => e = .returned (.func (.func 113) #[] #[.pointer (some ⟨w.heap.size + 1, 0, none⟩)]) ∧
  w' = (w.alloc (.cells #[.int .i64 b] 3)).alloc (.cells #[.func (.func 122) #[] #[.pointer (some ⟨w.heap.size, 0, none⟩)]] 93) := by
 go_enter Tryz.func73, Tryz.ntmps73;go_wp2_with (go_at_call 68; refine (zCY _ _ _).mono ?_; rintro e w2 ⟨rfl, rfl⟩);go_ret;exact ⟨by simp, rfl⟩
theorem zJf (b : Int) (w : World) : Calls zV 80 #[.int .i64 b] w fun e w' => e = .returned (.func (.func 113) #[] #[.pointer (some ⟨w.heap.size + 1, 0, none⟩)]) ∧
  w' = (w.alloc (.cells #[.int .i64 b] 3)).alloc (.cells #[.func (.func 136) #[] #[.pointer (some ⟨w.heap.size, 0, none⟩)]] 93) := by
 go_enter Tryz.func80, Tryz.ntmps80;go_wp2_with (go_at_call 68; refine (zCY _ _ _).mono ?_; rintro e w2 ⟨rfl, rfl⟩);go_ret;exact ⟨by simp, rfl⟩
def zAr (n : Nat) : List Value := [
 .func (.func 67) #[] #[],
 .func (.func 113) #[] #[.pointer (some ⟨n + 1, 0, none⟩)],
 .func (.func 113) #[] #[.pointer (some ⟨n + 2, 0, none⟩)],
 .func (.func 113) #[] #[.pointer (some ⟨n + 3, 0, none⟩)],
 .func (.func 113) #[] #[.pointer (some ⟨n + 4, 0, none⟩)],
 .func (.func 113) #[] #[.pointer (some ⟨n + 6, 0, none⟩)],
 .func (.func 113) #[] #[.pointer (some ⟨n + 8, 0, none⟩)],
 .func (.func 113) #[] #[.pointer (some ⟨n + 10, 0, none⟩)],
 .func (.func 113) #[] #[.pointer (some ⟨n + 12, 0, none⟩)],
 .func (.func 74) #[] #[],
 .func (.func 113) #[] #[.pointer (some ⟨n + 13, 0, none⟩)],
 .func (.func 113) #[] #[.pointer (some ⟨n + 14, 0, none⟩)],
 .func (.func 77) #[] #[],
 .func (.func 113) #[] #[.pointer (some ⟨n + 15, 0, none⟩)],
 .func (.func 113) #[] #[.pointer (some ⟨n + 16, 0, none⟩)],
 .func (.func 113) #[] #[.pointer (some ⟨n + 18, 0, none⟩)],
 .func (.func 113) #[] #[.pointer (some ⟨n + 20, 0, none⟩)]]
def tabV (n : Nat) : Array Value := #[.string ⟨#[105, 110, 115, 101, 114, 116, 84, 101, 120, 116]⟩, .string ⟨#[105, 110, 115, 101, 114, 116, 84, 101, 120, 116]⟩, .int .i64 1, .func (.func 67) #[] #[], .string ⟨#[105, 110, 115, 101, 114, 116, 76, 105, 110, 101, 66, 114, 101, 97, 107]⟩, .string ⟨#[105, 110, 115, 101, 114, 116, 76, 105, 110, 101, 66, 114, 101, 97, 107]⟩, .int .i64 0, .func (.func 113) #[] #[.pointer (some ⟨n + 1, 0, none⟩)], .string ⟨#[105, 110, 115, 101, 114, 116, 80, 97, 114, 97, 103, 114, 97, 112, 104]⟩, .string ⟨#[105, 110, 115, 101, 114, 116, 80, 97, 114, 97, 103, 114, 97, 112, 104]⟩, .int .i64 0, .func (.func 113) #[] #[.pointer (some ⟨n + 2, 0, none⟩)], .string ⟨#[100, 101, 108, 101, 116, 101]⟩, .string ⟨#[100, 101, 108, 101, 116, 101, 67, 111, 110, 116, 101, 110, 116, 66, 97, 99, 107, 119, 97, 114, 100]⟩, .int .i64 0, .func (.func 113) #[] #[.pointer (some ⟨n + 3, 0, none⟩)], .string ⟨#[102, 111, 114, 119, 97, 114, 100, 68, 101, 108, 101, 116, 101]⟩, .string ⟨#[100, 101, 108, 101, 116, 101, 67, 111, 110, 116, 101, 110, 116, 70, 111, 114, 119, 97, 114, 100]⟩, .int .i64 0, .func (.func 113) #[] #[.pointer (some ⟨n + 4, 0, none⟩)], .string ⟨#[98, 111, 108, 100]⟩, .string ⟨#[102, 111, 114, 109, 97, 116, 66, 111, 108, 100]⟩, .int .i64 0, .func (.func 113) #[] #[.pointer (some ⟨n + 6, 0, none⟩)], .string ⟨#[105, 116, 97, 108, 105, 99]⟩, .string ⟨#[102, 111, 114, 109, 97, 116, 73, 116, 97, 108, 105, 99]⟩, .int .i64 0, .func (.func 113) #[] #[.pointer (some ⟨n + 8, 0, none⟩)], .string ⟨#[117, 110, 100, 101, 114, 108, 105, 110, 101]⟩, .string ⟨#[102, 111, 114, 109, 97, 116, 85, 110, 100, 101, 114, 108, 105, 110, 101]⟩, .int .i64 0, .func (.func 113) #[] #[.pointer (some ⟨n + 10, 0, none⟩)], .string ⟨#[115, 116, 114, 105, 107, 101, 84, 104, 114, 111, 117, 103, 104]⟩, .string ⟨#[102, 111, 114, 109, 97, 116, 83, 116, 114, 105, 107, 101, 84, 104, 114, 111, 117, 103, 104]⟩, .int .i64 0, .func (.func 113) #[] #[.pointer (some ⟨n + 12, 0, none⟩)], .string ⟨#[99, 114, 101, 97, 116, 101, 76, 105, 110, 107]⟩, .string ⟨#[105, 110, 115, 101, 114, 116, 76, 105, 110, 107]⟩, .int .i64 1, .func (.func 74) #[] #[], .string ⟨#[117, 110, 108, 105, 110, 107]⟩, .string ⟨#[102, 111, 114, 109, 97, 116, 85, 110, 108, 105, 110, 107]⟩, .int .i64 0, .func (.func 113) #[] #[.pointer (some ⟨n + 13, 0, none⟩)], .string ⟨#[114, 101, 109, 111, 118, 101, 70, 111, 114, 109, 97, 116]⟩, .string ⟨#[102, 111, 114, 109, 97, 116, 82, 101, 109, 111, 118, 101]⟩, .int .i64 0, .func (.func 113) #[] #[.pointer (some ⟨n + 14, 0, none⟩)], .string ⟨#[102, 111, 114, 109, 97, 116, 66, 108, 111, 99, 107]⟩, .string ⟨#[102, 111, 114, 109, 97, 116, 66, 108, 111, 99, 107]⟩, .int .i64 1, .func (.func 77) #[] #[], .string ⟨#[105, 110, 100, 101, 110, 116]⟩, .string ⟨#[102, 111, 114, 109, 97, 116, 73, 110, 100, 101, 110, 116]⟩, .int .i64 0, .func (.func 113) #[] #[.pointer (some ⟨n + 15, 0, none⟩)], .string ⟨#[111, 117, 116, 100, 101, 110, 116]⟩, .string ⟨#[102, 111, 114, 109, 97, 116, 79, 117, 116, 100, 101, 110, 116]⟩, .int .i64 0, .func (.func 113) #[] #[.pointer (some ⟨n + 16, 0, none⟩)], .string ⟨#[105, 110, 115, 101, 114, 116, 85, 110, 111, 114, 100, 101, 114, 101, 100, 76, 105, 115, 116]⟩, .string ⟨#[105, 110, 115, 101, 114, 116, 85, 110, 111, 114, 100, 101, 114, 101, 100, 76, 105, 115, 116]⟩, .int .i64 0, .func (.func 113) #[] #[.pointer (some ⟨n + 18, 0, none⟩)], .string ⟨#[105, 110, 115, 101, 114, 116, 79, 114, 100, 101, 114, 101, 100, 76, 105, 115, 116]⟩, .string ⟨#[105, 110, 115, 101, 114, 116, 79, 114, 100, 101, 114, 101, 100, 76, 105, 115, 116]⟩, .int .i64 0, .func (.func 113) #[] #[.pointer (some ⟨n + 20, 0, none⟩)]]
def uD (n : Nat) : List Obj := [
 .cells #[.func (.func 69) #[] #[]] 93,
 .cells #[.func (.func 70) #[] #[]] 93,
 .cells #[.func (.func 71) #[] #[]] 93,
 .cells #[.func (.func 72) #[] #[]] 93,
 .cells #[.int .i64 1] 3,
 .cells #[.func (.func 122) #[] #[.pointer (some ⟨n + 5, 0, none⟩)]] 93,
 .cells #[.int .i64 2] 3,
 .cells #[.func (.func 122) #[] #[.pointer (some ⟨n + 7, 0, none⟩)]] 93,
 .cells #[.int .i64 4] 3,
 .cells #[.func (.func 122) #[] #[.pointer (some ⟨n + 9, 0, none⟩)]] 93,
 .cells #[.int .i64 8] 3,
 .cells #[.func (.func 122) #[] #[.pointer (some ⟨n + 11, 0, none⟩)]] 93,
 .cells #[.func (.func 75) #[] #[]] 93,
 .cells #[.func (.func 76) #[] #[]] 93,
 .cells #[.func (.func 78) #[] #[]] 93,
 .cells #[.func (.func 79) #[] #[]] 93,
 .cells #[.int .i64 0] 3,
 .cells #[.func (.func 136) #[] #[.pointer (some ⟨n + 17, 0, none⟩)]] 93,
 .cells #[.int .i64 1] 3,
 .cells #[.func (.func 136) #[] #[.pointer (some ⟨n + 19, 0, none⟩)]] 93]
structure TabAt (w W : World) (k : Nat) : Prop where
 below : Below w.heap.size w W
 size : W.heap.size = w.heap.size + (k + 1)
 tab : W.heap[w.heap.size]? = some (.cells Tryz.zeroCells64 64)
 objs : ∀ j o, j < k → (uD w.heap.size)[j]? = some o → W.heap[w.heap.size + (j + 1)]? = some o
theorem TabAt.snoc {w W : World} {k : Nat} (h : TabAt w W k) {o : Obj} (ho : (uD w.heap.size)[k]? = some o) : TabAt w (W.alloc o) (k + 1) :=
 ⟨h.below.alloc h.below.size _, by simp [h.size]; omega, jH _ _ h.tab, fun j o' hj hj' => by
  by_cases e : j = k
  ·subst e
   rw [ho] at hj';cases hj';exact jD _ _ h.size.symm
  ·exact jH _ _ (h.objs j o' qC hj')⟩
theorem zKv {w W : World} {k : Nat} (h : TabAt w W k) (f : Fn) (caps : Array Value) (ho : (uD w.heap.size)[k]? = some (.cells #[.func f #[] caps] 93)) :
  Calls zV 68 #[.func f #[] caps] W fun e w' => e = .returned (.func (.func 113) #[] #[.pointer (some ⟨w.heap.size + (k + 1), 0, none⟩)]) ∧ TabAt w w' (k + 1) :=
 (zCY f caps W).mono fun _ _ ⟨h1, h2⟩ => ⟨by rw [h1, h.size], h2 ▸ h.snoc ho⟩
theorem zIp {w W : World} {k : Nat} (h : TabAt w W k) (b : Int) (ho : (uD w.heap.size)[k]? = some (.cells #[.int .i64 b] 3)) (ho2 : (uD w.heap.size)[k + 1]? = some (.cells #[.func (.func 122) #[] #[.pointer (some ⟨w.heap.size + (k + 1), 0, none⟩)]] 93)) :
  Calls zV 73 #[.int .i64 b] W fun e w' => e = .returned (.func (.func 113) #[] #[.pointer (some ⟨w.heap.size + (k + 2), 0, none⟩)]) ∧ TabAt w w' (k + 2) :=
 (zHJ b W).mono fun _ _ ⟨h1, h2⟩ => ⟨by rw [h1, h.size, Nat.add_assoc], by rw [h2, h.size]; exact (h.snoc ho).snoc ho2⟩
theorem zFo {w W : World} {k : Nat} (h : TabAt w W k) (b : Int) (ho : (uD w.heap.size)[k]? = some (.cells #[.int .i64 b] 3)) (ho2 : (uD w.heap.size)[k + 1]? = some (.cells #[.func (.func 136) #[] #[.pointer (some ⟨w.heap.size + (k + 1), 0, none⟩)]] 93)) :
  Calls zV 80 #[.int .i64 b] W fun e w' => e = .returned (.func (.func 113) #[] #[.pointer (some ⟨w.heap.size + (k + 2), 0, none⟩)]) ∧ TabAt w w' (k + 2) :=
 (zJf b W).mono fun _ _ ⟨h1, h2⟩ => ⟨by rw [h1, h.size, Nat.add_assoc], by rw [h2, h.size]; exact (h.snoc ho).snoc ho2⟩
theorem zCu (w : World) (g : Nat) (cs : Array Value) {b : Nat} (h : b ≠ g) : (w.setRow g cs).heap[b]? = w.heap[b]? := by
 unfold World.setRow;simp only [Array.getElem?_modify];rw [if_neg (Ne.symm h)]
theorem zBE {n g : Nat} {w W : World} {cs : Array Value} (h : Below n w W) (hg : n ≤ g) : Below n w (W.setRow g cs) :=
 h.trans ⟨rfl, rfl, rfl, by simp [World.setRow], fun k hk => zCu _ _ _ qC⟩
theorem zHF {fn : Func} {p : Tmp} (h : fn.results = #[.cell p 64]) (tmps : Array Value) (w : World) (B : Nat) (vs : Array Value) (hp : tmps.getD p undef = .pointer (some ⟨B, 0, none⟩))
  (hB : w.heap[B]? = some (.cells vs 64)) (hs : (Tryz.prog.info? 64).map (·.size) = some vs.size) : (results fn tmps).run zV w = .ok (.agg vs) w := by
 have h1 := run_loadVar_row (P := zV) w B 64 64 _ _ _ hB Tryz.underlying64 rfl hs;have hp' : tmps[p]?.getD undef = .pointer (some ⟨B, 0, none⟩) := by simpa using hp
 simp [results, h, hp', asAddr, h1]
set_option maxRecDepth 100000 in
theorem zAB (w : World) : Calls zV 37 #[] w fun e w' => e = .returned (.agg (tabV w.heap.size)) ∧ Below w.heap.size w w' ∧ ∀ (k : Nat) (o : Obj), (uD w.heap.size)[k]? = some o → w'.heap[w.heap.size + (k + 1)]? = some o := by
 have ht : TabAt w (w.alloc (.cells Tryz.zeroCells64 64)) 0 := ⟨(Below.refl _ _).alloc (Nat.le_refl _) _, by simp, jD _ _ rfl, fun j _ hj => by omega⟩;go_enter Tryz.func37, Tryz.ntmps37
 go_wp2_with (first
  | (go_at_call 68; refine (zKv jA _ _ rfl).mono ?_; rintro e w2 ⟨rfl, ht⟩; simp only [Nat.reduceAdd] at ht)
  | (go_at_call 73; refine (zIp jA _ rfl rfl).mono ?_; rintro e w2 ⟨rfl, ht⟩; simp only [Nat.reduceAdd] at ht))
 go_at_call 80; refine (zFo jA _ rfl rfl).mono ?_; rintro e w2 ⟨rfl, ht⟩; simp only [Nat.reduceAdd] at ht;go_wp2_with fail;go_at_call 80; refine (zFo jA _ rfl rfl).mono ?_; rintro e w2 ⟨rfl, ht⟩; simp only [Nat.reduceAdd] at ht;simp only [];go_step;refine wpList_build rfl _ _ rfl zT ?_;refine wpList_build rfl _ _ rfl zT ?_;refine wpList_store_row rfl _ _ _ rfl w.heap.size (tabV w.heap.size) zT zT 64 _ (TabAt.tab jA) zT zT zT ?_;have HT := zA (And.intro ht.below (And.intro ht.tab ht.objs))
 generalize hact : Act.put _ _ _ = a9
 have ha9 : a9.tmps.getD 0 undef = .pointer (some ⟨w.heap.size, 0, none⟩) := by rw [← hact]; kernel_rfl
 have hd9 : a9.defers = [] := by rw [← hact]; kernel_rfl
 clear hact;clear ht;refine wpList_nil ?_;have hW := setRow_heap w2 w.heap.size _ (tabV w.heap.size) 64 _ HT.out.2.1;have hO : ∀ b, b ≠ w.heap.size → (w2.setRow w.heap.size (tabV w.heap.size)).heap[b]? = w2.heap[b]? := fun b hb => zCu w2 _ _ hb;have hB : Below w.heap.size w (w2.setRow w.heap.size (tabV w.heap.size)) := zBE HT.out.1 (Nat.le_refl _);simp only [Exit.then];refine ‹∀ (a : Act) (w : World), Code.wp _ _ _ a w → _› _ _ ?_;refine wp_ret ?_
 show bodyPost _ _ _ Exit.ret a9 _
 refine bodyPost_ret (zHF rfl _ _ w.heap.size _ ha9 hW zT) hd9 ?_
 exact ⟨rfl, hB, fun k o hk => by
  have hk20 : k < 20 := (List.getElem?_eq_some_iff.1 hk).1;rw [hO _ qC];exact HT.out.2.2 k o hk20 hk⟩
end Go.Proofs.YtjgeadoncanheaaGreatDoor
namespace Go.Proofs.Qw
open Go.RowKit Go.Proofs.YtjgeadoncanheaaGreatDoor
open _root_.List renaming getElem?_eq_some_iff → zK
def xL (l : List Cel) (k : Nat) : Int × List UInt8 :=
 (if 0 < k then (l.getD (k - 1) default).bits else if k < l.length then (l.getD k default).bits else 0,
  if 0 < k ∧ k < l.length ∧ (l.getD (k - 1) default).href = (l.getD k default).href then (l.getD (k - 1) default).href else [])
def zAQ (l : List Cel) (k : Nat) : List UInt8 := if 0 < k ∧ (l.getD (k - 1) default).href ≠ [] then (l.getD (k - 1) default).href else if k < l.length then (l.getD k default).href else []
def vG (l : List Cel) (h : List UInt8) : Nat → Nat
 | 0 => 0
 | k + 1 => if (l.getD k default).href = h then vG l h k else k + 1
def yP (l : List Cel) (h : List UInt8) (k : Nat) : Nat := k + ((l.drop k).takeWhile fun c => decide (c.href = h)).length
def xG (l : List Cel) (k : Nat) : Nat × Nat := if zAQ l k = [] then (k, k) else (vG l (zAQ l k) k, yP l (zAQ l k) k)
theorem zFc {l : List Cel} {h : List UInt8} {k : Nat} {c : Cel} (hc : l[k]? = some c) (e : c.href = h) : yP l h k = yP l h (k + 1) := by
 obtain ⟨hk, rfl⟩ := zK.1 hc;unfold yP;rw [List.drop_eq_getElem_cons hk, List.takeWhile_cons_of_pos (by simpa using e), List.length_cons]
 omega
theorem zEG {l : List Cel} {h : List UInt8} {k : Nat} {c : Cel} (hc : l[k]? = some c) (e : c.href ≠ h) : yP l h k = k := by
 obtain ⟨hk, rfl⟩ := zK.1 hc;unfold yP;rw [List.drop_eq_getElem_cons hk, List.takeWhile_cons_of_neg (by simpa using e)]
 rfl
theorem zEH {l : List Cel} {h : List UInt8} {k : Nat} (hk : l.length ≤ k) : yP l h k = k := by
 unfold yP;rw [List.drop_eq_nil_of_le hk]
 rfl
def yH (l : List Cel) : Nat → Option Cel
 | 0 => none
 | k + 1 => l[k]?
theorem zIS (l : List Cel) (k : Nat) (hk : k ≤ l.length) : xL l k = (match yH l k, l[k]? with | some a, _ => a.bits | none, some b => b.bits | none, none => 0, match yH l k, l[k]? with | some a, some b => if a.href = b.href then a.href else [] | _, _ => []) := by
 unfold xL;cases k with
 | zero =>
  by_cases h : 0 < l.length
  ·obtain ⟨x, hx, _⟩ := jO l 0 h
   simp [yH, hx, h, List.getD]
  ·have : l[0]? = none := List.getElem?_eq_none qC
   simp [yH, this, h]
 | succ j =>
  obtain ⟨a, ha, _⟩ := jO l j qC
  by_cases h : j + 1 < l.length
  ·obtain ⟨b, hb, _⟩ := jO l (j + 1) h
   simp [yH, ha, hb, h, List.getD]
  ·have : l[j + 1]? = none := List.getElem?_eq_none qC
   simp [yH, ha, this, h, List.getD]
theorem zKj (l : List Cel) (k : Nat) (hk : k ≤ l.length) : zAQ l k = match yH l k, l[k]? with | some a, some b => if a.href = [] then b.href else a.href | some a, none => a.href | none, some b => b.href | none, none => [] := by
 unfold zAQ;cases k with
 | zero =>
  by_cases h : 0 < l.length
  ·obtain ⟨x, hx, _⟩ := jO l 0 h
   simp [yH, hx, h, List.getD]
  ·have : l[0]? = none := List.getElem?_eq_none qC
   simp [yH, this, h]
 | succ j =>
  obtain ⟨a, ha, _⟩ := jO l j qC
  by_cases h : j + 1 < l.length
  ·obtain ⟨b, hb, _⟩ := jO l (j + 1) h
   by_cases he : a.href = [] <;> simp [yH, ha, hb, h, he, List.getD]
  ·have : l[j + 1]? = none := List.getElem?_eq_none qC
   by_cases he : a.href = [] <;> simp [yH, ha, this, h, he, List.getD]
end Go.Proofs.Qw
namespace Go.Proofs.YtjgeadoncanheaaGreatDoor
open Go.RowKit
open Go.Proofs.Qw
open _root_.Go.Lib renaming hid → zA
open _root_.Nat renaming le_refl → zC
open _root_.Go.RowKit.Below renaming refl → zE, setCell → zF, alloc → zG, drew → zH
open _root_.Int renaming natCast_nonneg → zR
def zAf (w : World) (p : Option Addr) : Option Cel → Prop
 | none => p = none
 | some c => ∃ b o, p = some ⟨b, o, none⟩ ∧ b < w.heap.size ∧ w.cell? ⟨b, o, none⟩ = some (.int .i32 c.r) ∧ w.cell? ⟨b, o + 1, none⟩ = some (.int .i64 c.bits) ∧ w.cell? ⟨b, o + 2, none⟩ = some (.string ⟨c.href.toArray⟩)
set_option maxRecDepth 100000 in
theorem zEU (v : Value) (l : List Cel) (k : Nat) (w : World) (S : Nat → Prop) (h : jC false w S v l) (hk : k ≤ l.length) :
  Calls Tryz.prog 146 #[v, .int .i64 k] w fun e w' => ∃ pa pb, e = .returned (.tuple #[.int .i64 k, .pointer pa, .pointer pb]) ∧ w' = w ∧ zAf w pa (yH l k) ∧ zAf w pb l[k]? := by
 obtain ⟨a, c, rfl, hc, hm, hx⟩ := uB h;have e1 : max (k : Int) 0 = k := by omega
 have e2 : min (k : Int) (l.length : Int) = k := by omega
 unfold maxLen at hm;have HX := zA hx;clear hx h;cases k with
 | zero =>
  by_cases hn : 0 < l.length
  ·obtain ⟨x, hx0, _⟩ := jO l 0 hn
   obtain ⟨b, o, rfl, hz, c0, c1, c2⟩ := HX.out 0 x hx0;have HB : Hid (zAf w (some ⟨b, o, none⟩) l[0]?) := zA (by rw [hx0]; exact ⟨b, o, rfl, hz, by simpa using c0, by simpa using c1, by simpa using c2⟩);clear hx0 c0 c1 c2 hz;go_enter Tryz.func146, Tryz.ntmps146;go_wp2_with fail;go_ret3;exact ⟨none, _, rfl, rfl, rfl, HB.out⟩
  ·have hn : l.length = 0 := by omega
   have HB : Hid (zAf w none l[0]?) := zA (by rw [List.getElem?_eq_none qC]; exact rfl);go_enter Tryz.func146, Tryz.ntmps146;go_wp2_with fail;go_ret3;exact ⟨none, none, rfl, rfl, rfl, HB.out⟩
 | succ j =>
  obtain ⟨x, hx0, _⟩ := jO l j qC;obtain ⟨b, o, rfl, hz, c0, c1, c2⟩ := HX.out j x hx0;have HA : Hid (zAf w (some ⟨b, o + j * 3, none⟩) (yH l (j + 1))) := zA (by show zAf _ _ l[j]?; rw [hx0]; exact ⟨b, o + j * 3, rfl, hz, c0, c1, c2⟩);have e1' : max ((j : Int) + 1) 0 = (j : Int) + 1 := by omega
  have e2' : min ((j : Int) + 1) (l.length : Int) = (j : Int) + 1 := by omega
  have e4 : ((j : Int) + 1).toNat = j + 1 := by omega
  clear e1 e2;clear hx0 c0 c1 c2
  by_cases hn : j + 1 < l.length
  ·obtain ⟨y, hy0, _⟩ := jO l (j + 1) hn
   obtain ⟨b', o', hbe, hz', c0, c1, c2⟩ := HX.out (j + 1) y hy0;cases hbe;have HB : Hid (zAf w (some ⟨b, o + (j + 1) * 3, none⟩) l[j + 1]?) := zA (by rw [hy0]; exact ⟨b, o + (j + 1) * 3, rfl, hz', c0, c1, c2⟩);clear hy0 c0 c1 c2 hz' hz;go_enter Tryz.func146, Tryz.ntmps146;go_wp2_with fail;go_ret3;exact ⟨_, _, rfl, rfl, HA.out, HB.out⟩
  ·have HB : Hid (zAf w none l[j + 1]?) := zA (by rw [List.getElem?_eq_none qC]; exact rfl)
   clear hz;go_enter Tryz.func146, Tryz.ntmps146;go_wp2_with fail;go_ret3;exact ⟨_, none, rfl, rfl, HA.out, HB.out⟩
set_option maxRecDepth 100000 in
theorem zCQ (v : Value) (l : List Cel) (k : Nat) (w : World) (S : Nat → Prop) (h : jC false w S v l) (hk : k ≤ l.length) :
  Calls Tryz.prog 84 #[v, .int .i64 k] w fun e w' => e = .returned (.tuple #[.int .i64 (xL l k).1, .string ⟨(xL l k).2.toArray⟩]) ∧ Below w.heap.size w w' := by
 have HS := zA (zEU v l k w S h hk);have HR := zA (zIS l k hk);obtain ⟨r1, r2, hr⟩ : ∃ r1 r2, xL l k = (r1, r2) := ⟨_, _, rfl⟩;rw [hr] at HR ⊢;clear hr hk;obtain ⟨a, c, rfl⟩ := h.slice;clear h;have hw0 : Below w.heap.size w w := zE _ _
 generalize yH l k = X at *
 generalize l[k]? = Y at *
 cases X with
 | none =>
  cases Y with
  | none =>
   go_enter Tryz.func84, Tryz.ntmps84;go_wp2_with (go_at_call 146; refine HS.out.mono ?_; intro e w1 hs; obtain ⟨pa, pb, rfl, rfl, hpa, hpb⟩ := hs; obtain rfl : pa = none := hpa; obtain rfl : pb = none := hpb);go_region;go_wp2_with fail;go_ret2;cases HR.out;exact ⟨rfl, zBu⟩
  | some y =>
   go_enter Tryz.func84, Tryz.ntmps84;go_wp2_with (go_at_call 146; refine HS.out.mono ?_; intro e w1 hs; obtain ⟨pa, pb, rfl, rfl, hpa, hpb⟩ := hs; obtain rfl : pa = none := hpa; obtain ⟨b, o, rfl, hz, c0, c1, c2⟩ := hpb);go_region;go_wp2_with fail;go_ret2;cases HR.out;exact ⟨rfl, zBu⟩
 | some x =>
  cases Y with
  | none =>
   go_enter Tryz.func84, Tryz.ntmps84;go_wp2_with (go_at_call 146; refine HS.out.mono ?_; intro e w1 hs; obtain ⟨pa, pb, rfl, rfl, hpa, hpb⟩ := hs; obtain ⟨b, o, rfl, hz, c0, c1, c2⟩ := hpa; obtain rfl : pb = none := hpb);go_region;go_wp2_with fail;go_ret2;cases HR.out;exact ⟨rfl, zBu⟩
  | some y =>
   by_cases hxy : x.href = y.href
   ·have HQ : Hid ((r1, r2) = (x.bits, x.href)) := zA (HR.out.trans (by simp [hxy]))
    have hq : (x.href == y.href) = true := by simpa using hxy
    clear hxy HR;go_enter Tryz.func84, Tryz.ntmps84;go_wp2_with (go_at_call 146; refine HS.out.mono ?_; intro e w1 hs; obtain ⟨pa, pb, rfl, rfl, hpa, hpb⟩ := hs; obtain ⟨b, o, rfl, hz, c0, c1, c2⟩ := hpa; obtain ⟨b', o', rfl, hz', c0', c1', c2'⟩ := hpb);go_region;go_wp2_with fail;go_ret2;cases HQ.out;exact ⟨rfl, zBu⟩
   ·have HQ : Hid ((r1, r2) = (x.bits, [])) := zA (HR.out.trans (by simp [hxy]))
    have hq : (x.href == y.href) = false := by simpa using hxy
    clear hxy HR;go_enter Tryz.func84, Tryz.ntmps84;go_wp2_with (go_at_call 146; refine HS.out.mono ?_; intro e w1 hs; obtain ⟨pa, pb, rfl, rfl, hpa, hpb⟩ := hs; obtain ⟨b, o, rfl, hz, c0, c1, c2⟩ := hpa; obtain ⟨b', o', rfl, hz', c0', c1', c2'⟩ := hpb);go_region;go_wp2_with fail;go_ret2;cases HQ.out;exact ⟨rfl, zBu⟩
set_option maxRecDepth 100000 in
theorem zIf (v : Value) (l : List Cel) (k : Nat) (w : World) (S : Nat → Prop) (h : jC false w S v l) (hk : k ≤ l.length) (hl : l.length ≤ 1000000) :
  Calls Tryz.prog 157 #[v, .int .i64 k] w fun e w' => e = .returned (.tuple #[.int .i64 (xG l k).1, .int .i64 (xG l k).2]) ∧ Below w.heap.size w w' := by
 have HS := zA (zEU v l k w S h hk);have HE := zA (zKj l k hk);obtain ⟨H, hH⟩ : ∃ H, zAQ l k = H := ⟨_, rfl⟩;have HR : Hid (xG l k = if H = [] then (k, k) else (vG l H k, yP l H k)) := zA (by unfold xG; rw [hH]);rw [hH] at HE;clear hH;obtain ⟨a, c, rfl, hc, hm, hx⟩ := uB h;unfold maxLen at hm;have HX := zA hx;clear hx h;have hw0 : Below w.heap.size w w := zE _ _;go_enter Tryz.func157, Tryz.ntmps157;go_upto_if 18 with (go_at_call 146; refine HS.out.mono ?_; intro e w1 hs; obtain ⟨pa, pb, rfl, rfl, hpa, hpb⟩ := hs; have HA := zA hpa; have HB := zA hpb; clear hpa hpb)
 clear HS
 generalize yH l k = X at *
 obtain ⟨Y, hY⟩ : ∃ Y, l[k]? = Y := ⟨_, rfl⟩;rw [hY] at HB HE;clear hY;obtain ⟨h0, hh0⟩ : ∃ h0 : List UInt8, (Y.map (fun y : Cel => y.href)).getD [] = h0 := ⟨_, rfl⟩;have hE : H = (X.map (fun x : Cel => if x.href = [] then h0 else x.href)).getD h0 := by rw [HE.out, ← hh0]; cases X <;> cases Y <;> simp
 clear HE;have HE := zA hE;clear hE;go_cut [9] from 17 (fun r wx => r = .string ⟨h0.toArray⟩ ∧ wx = w1)
 case first =>
  cases Y with
  | none =>
   obtain rfl : pb = none := HB.out;cases hh0;go_wp2_with fail;go_meet
   case rel => exact ⟨rfl, rfl⟩
  | some y =>
   obtain ⟨b, o, rfl, hz, c0, c1, c2⟩ := HB.out;cases hh0;go_wp2_with fail;go_meet
   case rel => exact ⟨rfl, rfl⟩
 case rest =>
 obtain ⟨rfl, rfl⟩ := hcut;clear hh0 HB;obtain ⟨B, hB⟩ : ∃ B, (X.map (fun x : Cel => !x.href.isEmpty)).getD false = B := ⟨_, rfl⟩;go_upto_region 5 with fail
 go_cut [31] from 25 to 31 (fun r wx => r = .bool B ∧ wx = wc)
 case first =>
  cases X with
  | none =>
   obtain rfl : pa = none := HA.out;cases hB;go_wp2_with fail;go_meet
   case rel => exact ⟨rfl, rfl⟩
  | some x =>
   obtain ⟨b, o, rfl, hz, c0, c1, c2⟩ := HA.out;have hB' : B = !x.href.isEmpty := hB.symm;clear hB;cases hq : x.href.isEmpty
   all_goals
    rw [hq] at hB';subst hB';go_wp2_with fail;go_meet
    case rel => exact ⟨rfl, rfl⟩
 case rest =>
 obtain ⟨rfl, rfl⟩ := hcut
 have hHB : (B = false ∧ H = h0) ∨ (B = true ∧ ∃ x, X = some x ∧ H = x.href) := by
  rw [← hB, HE.out];cases X with
  | none => exact .inl ⟨rfl, rfl⟩
  | some x =>
   cases hx : x.href with
   | nil => exact .inl ⟨by simp [hx], by simp [hx]⟩
   | cons y l => exact .inr ⟨by simp [hx], x, rfl, by simp [hx]⟩
 have HHB := zA hHB;clear hHB hB HE;go_upto_if 31 with fail
 go_cut [9] from 32 (fun r wx => r = .string ⟨H.toArray⟩ ∧ wx = wc)
 case first =>
  rcases HHB.out with ⟨rfl, rfl⟩ | ⟨rfl, x, rfl, rfl⟩
  ·go_wp2_with fail
   go_meet
   case rel => exact ⟨rfl, rfl⟩
  ·obtain ⟨b, o, rfl, hz, c0, c1, c2⟩ := HA.out
   go_wp2_with fail;go_meet
   case rel => exact ⟨rfl, rfl⟩
 case rest =>
 obtain ⟨rfl, rfl⟩ := hcut;clear HA HHB
 by_cases hH : H = []
 ·have HQ : Hid (xG l k = (k, k)) := zA (HR.out.trans (if_pos hH))
  subst hH;go_wp2_with fail;go_ret2;rw [HQ.out];exact ⟨rfl, hw0⟩
 ·have HQ : Hid (xG l k = (vG l H k, yP l H k)) := zA (HR.out.trans (if_neg hH))
  have hne : H.isEmpty = false := by simpa using hH
  clear HR hH;go_wp2_with fail;go_loopw [4] (fun i wr => ∃ j : Nat, j ≤ k ∧ i = .int .i64 j ∧ Hid (vG l H k = vG l H j) ∧ wc = wr) (fun i _ => (intOf i).toNat)
  case atStart => exact ⟨k, zC _, rfl, zA rfl, rfl⟩
  case round =>
   obtain ⟨j, hj, rfl, HJ, rfl⟩ := hrel
   have hdone : (j = 0 ∨ ∃ m, j = m + 1 ∧ ∃ x, l[m]? = some x ∧ x.href ≠ H) ∨ ∃ m, j = m + 1 ∧ ∃ x, l[m]? = some x ∧ x.href = H := by
    cases j with
    | zero => exact .inl (.inl rfl)
    | succ m =>
     obtain ⟨x, hx, _⟩ := jO l m qC
     by_cases e : x.href = H
     ·exact .inr ⟨m, rfl, x, hx, e⟩
     ·exact .inl (.inr ⟨m, rfl, x, hx, e⟩)
   rcases hdone with (rfl | ⟨m, rfl, x, hx, hxe⟩) | ⟨m, rfl, x, hx, hxe⟩
   ·have HB' : Hid (vG l H k = 0) := zA (HJ.out.trans rfl)
    go_wp2_with fail;go_loopw [5] (fun i wr => ∃ n : Nat, k ≤ n ∧ n ≤ l.length ∧ i = .int .i64 n ∧ Hid (yP l H k = yP l H n) ∧ wc = wr) (fun i _ => l.length - (intOf i).toNat)
    case atStart => exact ⟨k, zC _, hk, rfl, zA rfl, rfl⟩
    case round =>
     obtain ⟨n, hn, hnl, rfl, HN, rfl⟩ := hrel
     by_cases hlt : n < l.length
     ·obtain ⟨y, hy, _⟩ := jO l n hlt
      obtain ⟨b', o', hbe, hz', d0, d1, d2⟩ := HX.out n y hy;subst hbe;have n0 : (0 : Int) ≤ (n : Int) := zR _
      by_cases hye : y.href = H
      ·have HF := zA (HN.out.trans (zFc hy hye))
       have hq : (y.href == H) = true := by simpa using hye
       clear hy hye;go_wp2_with fail;go_roundw
       case rel => exact ⟨n + 1, by omega, by omega, by go_num, HF, by simp⟩
       case measure => simp [intOf]; omega
      ·have HF := zA (HN.out.trans (zEG hy hye))
       have hq : (y.href == H) = false := by simpa using hye
       clear hy hye;go_wp2_with fail;go_ret2;rw [HQ.out, HB'.out, HF.out];exact ⟨rfl, hw0⟩
     ·obtain rfl : n = l.length := by omega
      have HF := zA (HN.out.trans (zEH (zC _)));go_wp2_with fail;go_ret2;rw [HQ.out, HB'.out, HF.out];exact ⟨rfl, hw0⟩
   ·have HB' : Hid (vG l H k = m + 1) := zA (HJ.out.trans (by unfold vG; rw [if_neg (by simpa [List.getD, hx] using hxe)]))
    obtain ⟨b, o, rfl, hz, c0, c1, c2⟩ := HX.out m x hx;have hq : (x.href == H) = false := by simpa using hxe
    have e3 : ((m + 1 : Nat) : Int) - 1 = m := by omega
    clear hx hxe;go_wp2_with fail;go_loopw [5] (fun i wr => ∃ n : Nat, k ≤ n ∧ n ≤ l.length ∧ i = .int .i64 n ∧ Hid (yP l H k = yP l H n) ∧ wc = wr) (fun i _ => l.length - (intOf i).toNat)
    case atStart => exact ⟨k, zC _, hk, rfl, zA rfl, rfl⟩
    case round =>
     obtain ⟨n, hn, hnl, rfl, HN, rfl⟩ := hrel
     by_cases hlt : n < l.length
     ·obtain ⟨y, hy, _⟩ := jO l n hlt
      obtain ⟨b', o', hbe, hz', d0, d1, d2⟩ := HX.out n y hy;cases hbe;have n0 : (0 : Int) ≤ (n : Int) := zR _
      by_cases hye : y.href = H
      ·have HF := zA (HN.out.trans (zFc hy hye))
       have hq : (y.href == H) = true := by simpa using hye
       clear hy hye;go_wp2_with fail;go_roundw
       case rel => exact ⟨n + 1, by omega, by omega, by go_num, HF, by simp⟩
       case measure => simp [intOf]; omega
      ·have HF := zA (HN.out.trans (zEG hy hye))
       have hq : (y.href == H) = false := by simpa using hye
       clear hy hye;go_wp2_with fail;go_ret2;rw [HQ.out, HB'.out, HF.out];exact ⟨rfl, hw0⟩
     ·obtain rfl : n = l.length := by omega
      have HF := zA (HN.out.trans (zEH (zC _)));go_wp2_with fail;go_ret2;rw [HQ.out, HB'.out, HF.out];exact ⟨rfl, hw0⟩
   ·have HB' := zA (HJ.out.trans (show vG l H (m + 1) = vG l H m by rw [vG, if_pos (by simpa [List.getD, hx] using hxe)]))
    obtain ⟨b, o, rfl, hz, c0, c1, c2⟩ := HX.out m x hx;have hq : (x.href == H) = true := by simpa using hxe
    have e3 : ((m + 1 : Nat) : Int) - 1 = m := by omega
    clear hx hxe;go_wp2_with fail;go_roundw
    case rel => exact ⟨m, by omega, by go_num, HB', by simp⟩
    case measure => simp [intOf]
end Go.Proofs.YtjgeadoncanheaaGreatDoor
namespace Go.Proofs.Qw
open Go.RowKit Go.Proofs.YtjgeadoncanheaaGreatDoor
def selS (s : St) : List Cel := cellsD s.lines (qU s).1 (qU s).2
def yF (s : St) : List Cel := (s.lines.getD s.anc.line.toNat default).cells
def andB (l : List Cel) : Int := l.foldl (fun b c => bits .and .i64 b c.bits) 15
def zFW (l : List Cel) : Int := if l = [] then 0 else andB l
def vF (s : St) : Int := if mayS s = true then (if s.anc = s.foc then bits .or .i64 (bits .andNot .i64 (xL (yF s) s.anc.col.toNat).1 s.off) s.on else zFW (selS s)) else 0
def hasS (s : St) (b : Int) : Bool := !(b == 0) && (bits .and .i64 (vF s) b == b)
def allL (l : List Cel) (b : Int) : Bool := decide (0 < l.length) && l.all fun c => bits .and .i64 c.bits b == b
def vO (l : List Cel) (b : Int) : Bool := l.any fun c => bits .and .i64 c.bits b != 0
def vN (s : St) (b : Int) : Bool := mayS s && (!decide (s.anc = s.foc) && (vO (selS s) b && !allL (selS s) b))
def kG (s : St) : Ps × Ps := if s.anc = s.foc then (⟨s.anc.line, ((xG (yF s) s.anc.col.toNat).1 : Int)⟩, ⟨s.anc.line, ((xG (yF s) s.anc.col.toNat).2 : Int)⟩) else qU s
def zDo : List Cel → List UInt8
 | [] => []
 | c :: l => if l.all (fun x => decide (x.href = c.href)) = true then c.href else []
def zAO (s : St) : List UInt8 := if mayS s = true then zDo (cellsD s.lines (kG s).1 (kG s).2) else []
def zAo (s : St) (x : Doc × Int) : St × Int := if x.2 = 0 then (⟨x.1, s.anc, s.foc, 0, 0⟩, 0) else (noS, x.2)
def yA (s : St) (x : Doc × Int) : St × Int := if mayS s = true then zAo s x else (noS, 1)
def four (b : Int) : Bool := decide (b = 1) || (decide (b = 2) || (decide (b = 4) || decide (b = 8)))
def togC (s : St) (b : Int) : St :=
 { s with on := bits .or .i64 (bits .andNot .i64 s.on b) (bits .andNot .i64 b (vF s)), off := bits .or .i64 (bits .andNot .i64 s.off b) (bits .andNot .i64 b (bits .andNot .i64 b (vF s))) }
def togD (s : St) (b : Int) : Doc × Int := if allL (selS s) b = true then setD 0 b s.lines (qU s).1 (qU s).2 else setD b 0 s.lines (qU s).1 (qU s).2
def vK (s : St) (b : Int) : St × Int := if mayS s = true ∧ four b = true then (if s.anc = s.foc then (togC s b, 0) else zAo s (togD s b)) else (noS, 1)
def zCg (s : St) (h : List UInt8) : Doc × Int := if xR h = true then vC h s.lines (qU s).1 (qU s).2 else ([], 1)
def uV (s : St) : Doc × Int := if (cellsD s.lines (kG s).1 (kG s).2).any (fun c => decide (c.href ≠ [])) = true then vC [] s.lines (kG s).1 (kG s).2 else ([], 7)
def zCb (s : St) : Doc × Int := if vO (selS s) 15 = true then setD 0 15 s.lines (qU s).1 (qU s).2 else ([], 7)
theorem zDQ {s : St} (h : s.anc = s.foc) : qU s = (s.anc, s.anc) := by
 have : cmpP s.foc s.foc = 0 := by simp [cmpP, cmpI]
 unfold qU;rw [h, this, if_neg qC]
theorem uW {s : St} (h : mayS s = true) : mayD s.lines = true ∧ isD s.lines s.anc = true ∧ isD s.lines s.foc = true ∧ bits .andNot .i64 s.on 15 = 0 ∧ bits .andNot .i64 s.off 15 = 0 ∧ bits .and .i64 s.on s.off = 0 := by
 simpa [mayS, and_assoc] using h
theorem zEX {s : St} (h : mayS s = true) : kF s.lines (qU s).1 (qU s).2 = true := by
 obtain ⟨h1, h2, h3, _⟩ := uW h;unfold qU
 split
 ·rename_i hc
  rw [zFN] at hc;simp [kF, h1, h2, h3]
  omega
 ·simp [kF, h1, h2, h3]
  omega
end Go.Proofs.Qw
namespace Go.Proofs.YtjgeadoncanheaaGreatDoor
open Go.RowKit
open Go.Proofs.Qw
open _root_.Go.Lib renaming hid → zA
open _root_.Nat renaming le_refl → zC, le_trans → zD
open _root_.Go.Proofs.Tryz renaming prog → zV
open _root_.Go.Proofs.Qw renaming jV → qB
open _root_.Go.Proofs.Qw.SliceR renaming stable → qG
theorem zAH {P : Program} {st t : TypeId} {k : Nat} (hT : RowT P st t k) (w : World) (l : List Value) (hl : l.length = k) (h1 : ∀ u ∈ l, u.oneCell' = true) (c : Nat) {B : Nat} (hB : B = w.heap.size) : Src P k st (.slice (some ⟨B, 0, none⟩) 1 c) 1 l (w.alloc (.cells l.toArray t)) := hB ▸ zFD hT w l hl h1 c
def xM (d : Doc) (x : Nat × Nat × Nat) : Lin := { (d.getD x.1 default) with cells := vW d x }
def yI (d : Doc) (a b : Ps) : Doc × Int := if kF d a b = true then ((kI d a.line.toNat a.col.toNat b.line.toNat b.col.toNat (b.line.toNat + 1)).map (xM d), 0) else ([], 1)
theorem zJh {d : Doc} {x : Nat × Nat × Nat} {l : Lin} (h : d[x.1]? = some l) : xM d x = { l with cells := (l.cells.drop x.2.1).take (x.2.2 - x.2.1) } := by
 unfold xM;rw [zCV h];simp [List.getD, h]
theorem zIG (d : Doc) (xs : List (Nat × Nat × Nat)) : (xs.map (xM d)).flatMap (·.cells) = kM d xs := by
 unfold kM;rw [List.flatMap_map]
 rfl
theorem zEp (d : Doc) (i p j q : Nat) : ∀ n : Nat, i + n ≤ d.length → (kM d (kI d i p j q (i + n))).length ≤ jU (d.take (i + n))
 | 0, _ => by rw [Nat.add_zero, zCM]; simp [kM]
 | n + 1, h => by
  have ih := zEp d i p j q n qC;obtain ⟨l, hl, _⟩ := jO d (i + n) qC;have hs := zBO hl;rw [show i + (n + 1) = i + n + 1 by omega, zCI d qC, zEo, List.length_append]
  have : (vW d (rowB d i p j q (i + n))).length ≤ l.cells.length := by
   rw [zCV (x := rowB d i p j q (i + n)) hl, List.length_take, List.length_drop]
   omega
  omega
theorem zBc (d : Doc) (a b : Ps) : (cellsD d a b).length ≤ jU d := by
 unfold cellsD
 split
 ·rename_i h
  obtain ⟨_, i, j, p, q, l, m, rfl, rfl, hl, hm, _, _, hij, _⟩ := vS h;have hjl := (List.getElem?_eq_some_iff.1 hm).1;have := zEp d i p j q (j + 1 - i) qC;rw [show i + (j + 1 - i) = j + 1 by omega] at this;exact zD this (zBk d _)
 ·simp
theorem zGL {P : Program} {ops : Array Oper} {Q : Exit → Act → World → Prop} {l : List Oper} {a : Act} {w : World} (h : ∀ w', w = w' → wpList P ops Q l a w') : wpList P ops Q l a w := h w rfl
set_option maxRecDepth 100000 in
theorem zDL (l : Lin) (a b : Value) (o1 o2 : Bool) (w w0 : World) (S : Nat → Prop) (hL : jI o1 w0 S a l.lists) (hC : jC o2 w0 S b l.cells) (h0 : Below w0.heap.size w0 w) (hs : l.lists.length ≤ 1000000 ∧ l.cells.length ≤ 1000000) :
  Calls zV 158 #[linV l a b] w fun e w' => ∃ a', e = .returned (linV l a' (.slice none 0 0)) ∧ jI true w' (fun b => w.heap.size ≤ b) a' l.lists ∧ Below w.heap.size w w' := by
 have HO : Hid (∀ W, Below w0.heap.size w0 W → Calls zV 212 #[linV l a b] W fun e w' => ∃ a' b', e = .returned (linV l a' b') ∧ jI true w' (fun b => W.heap.size ≤ b) a' l.lists ∧ jC true w' (fun b => W.heap.size ≤ b) b' l.cells ∧ Below W.heap.size W w') := zA fun W hW => zBb l a b o1 o2 W w0 S hL hC hW hs;obtain ⟨la, lc, rfl⟩ := hL.slice;obtain ⟨ca, cc, rfl⟩ := hC.slice;obtain ⟨W1, hW1, hB, hz, hA1, hA2⟩ := uS w (.int .i64 l.quote) (.slice la l.lists.length lc) (.int .i64 l.kind) (.slice ca l.cells.length cc) (.int .i64 0) (.slice none 0 0) (.int .i64 0) (.slice none 0 0);have hs1 := hB.size;have HB0 : Hid (∀ W, Below W1.heap.size W1 W → W.heap[w.heap.size]? = some (.cells #[.int .i64 l.quote, .slice la l.lists.length lc, .int .i64 l.kind, .slice ca l.cells.length cc] 47)) := zA fun W hW => jG hW hA1;have HB1 : Hid (∀ W, Below W1.heap.size W1 W → W.heap[w.heap.size + 1]? = some (.cells #[.int .i64 0, .slice none 0 0, .int .i64 0, .slice none 0 0] 47)) := zA fun W hW => jG hW hA2;have H1 := zA hB;have h01 : Below w0.heap.size w0 W1 := jF h0 hB;obtain ⟨p1, f1⟩ := blk hA1;obtain ⟨p2, f2⟩ := blk hA2;clear hL hC hs hB h0;unfold linV at HO ⊢;go_enter Tryz.func158, Tryz.ntmps158;go_wp2_with (first | (go_at_call 212; refine (HO.out _ h01).mono ?_; rintro e w2 ⟨a', b', rfl, ha', hb', hb2⟩; obtain ⟨a1, c1, rfl⟩ := ha'.slice; obtain ⟨a2, c2, rfl⟩ := hb'.slice; have hA3 := HB0.out _ hb2; have hA4 := HB1.out _ hb2; obtain ⟨p3, f3⟩ := blk hA3; obtain ⟨p4, f4⟩ := blk hA4) | (with_reducible show wpList _ _ _ _ _ _; refine wpList_load_row rfl 47 _ rfl w.heap.size rfl 47 #[.int .i64 l.quote, .slice a1 l.lists.length c1, .int .i64 l.kind, .slice none 0 0] (0, 0) _ (by simp [jL, qW, hA3]) Tryz.underlying47 rfl zT ?_; with_reducible refine zGL ?_; intro w3 hw3; have hA5 : w3.heap[w.heap.size + 1]? = some (.cells #[.int .i64 0, .slice none 0 0, .int .i64 0, .slice none 0 0] 47) := (by rw [← hw3]; simp [jL, hA4]); obtain ⟨p5, f5⟩ := blk hA5; clear p3 f3 p4 f4));refine bodyPost_ret (zDR rfl _ _ (w.heap.size + 1) (.int .i64 l.quote) (.slice a1 l.lists.length c1) (.int .i64 l.kind) (.slice none 0 0) rfl (by simp [jL, qW, hA5])) rfl ?_;have s2 := hb2.size;have hfin := H1.out.trans (hb2.mono hs1);have hf3 : Below w.heap.size w w3 := by rw [← hw3]; ((with_reducible repeat' first | exact Below.refl _ _ | assumption | refine Below.alloc ?_ ?_ _ | refine Below.drew ?_ | refine jN ?_ | refine Below.setCell ?_ ?_ _) <;> go_size)
 have hi3 : jI true w3 (fun b => W1.heap.size ≤ b) (.slice a1 l.lists.length c1) l.lists := by rw [← hw3]; exact (qG (qB _) ha' zAR (fun b h _ => jJ))
 exact ⟨_, rfl, (qG (qB _) hi3 zAR (fun b h _ => jJ)), by ((with_reducible repeat' first | exact Below.refl _ _ | assumption | refine Below.alloc ?_ ?_ _ | refine Below.drew ?_ | refine jN ?_ | refine Below.setCell ?_ ?_ _) <;> go_size)⟩
def xU (l : Lin) (p : Nat) : Lin × Lin := ({ l with cells := l.cells.take p }, if l.cells.length ≤ p then { l with kind := 0, cells := [] } else { l with cells := l.cells.drop p })
theorem zCv {fn : Func} {p q u : Tmp} (h : fn.results = #[.cell p 47, .cell q 47, .tmp u]) (tmps : Array Value) (w : World) (B C : Nat) (x1 x2 x3 x4 y1 y2 y3 y4 : Value) (hp : tmps.getD p undef = .pointer (some ⟨B, 0, none⟩)) (hq : tmps.getD q undef = .pointer (some ⟨C, 0, none⟩))
  (hB : w.heap[B]? = some (.cells #[x1, x2, x3, x4] 47)) (hC : w.heap[C]? = some (.cells #[y1, y2, y3, y4] 47)) :
  (results fn tmps).run zV w = .ok (.tuple #[.agg #[x1, x2, x3, x4], .agg #[y1, y2, y3, y4], tmps.getD u undef]) w := by
 have h1 := run_loadVar_row (P := zV) w B 47 47 _ _ _ hB Tryz.underlying47 rfl zT;have h2 := run_loadVar_row (P := zV) w C 47 47 _ _ _ hC Tryz.underlying47 rfl zT;have hp' : tmps[p]?.getD undef = .pointer (some ⟨B, 0, none⟩) := by simpa using hp
 have hq' : tmps[q]?.getD undef = .pointer (some ⟨C, 0, none⟩) := by simpa using hq
 simp [results, h, hp', hq', asAddr, h1, h2]
theorem SliceR.caps {α : Type} {t : TypeId} {k : Nat} {R : Rd α} {own : Bool} {w : World} {S : Nat → Prop} {xs : List α} {a : Option Addr} {n c : Nat} (h : SliceR t k R own w S (.slice a n c) xs) {m : Nat} (hn : xs.length ≤ m) (hm : m ≤ c) : SliceR t k R own w S (.slice a n m) xs := by
 obtain ⟨a', c', e, hc, hcm, hx⟩ := h;cases e;refine ⟨a, m, rfl, hn, by omega, ?_⟩;rcases hx with ⟨rfl, h0⟩ | ⟨b, o, rfl, hb, hz, hf, he⟩
 ·exact .inl ⟨rfl, fun ho => by have := h0 ho; omega⟩
 ·refine .inr ⟨b, o, rfl, hb, hz, fun ho => ?_, he⟩
  obtain ⟨cs, g1, g2⟩ := hf ho;exact ⟨cs, g1, zD (Nat.add_le_add_left (Nat.mul_le_mul_right _ hm) _) g2⟩
theorem zIQ {Y : World} {S : Nat → Prop} {a : Option Addr} {n c p : Nat} {xs : List Cel} (h : jC true Y S (.slice a n c) xs) (hp : p ≤ xs.length) (hcp : ¬ c = p) : jC true Y S (.slice (Option.map (fun x => x.add (p * 3)) a) (xs.length - p) (c - p)) (xs.drop p) := by
 have := SliceR.part h (i := p) (j := xs.length) (m := c) hp (zC _) h.len.2.1 (zC _);rw [List.take_of_length_le zAV] at this
 simpa only [sliced, if_neg hcp] using this
theorem zCZ {P : Program} {c : Code} {Q : Exit → Act → World → Prop} {a : Act} {w : World} (h : ∀ w', w = w' → c.wp P Q a w') : c.wp P Q a w := h w rfl
theorem xD (w : World) : w.drew.heap = w.heap := rfl
theorem jX (X : World) (B : Nat) (t : TypeId) (z1 z2 z3 z4 x1 x2 x3 x4 : Value) (h : X.heap[B]? = some (.cells #[z1, z2, z3, z4] t)) : ∃ Y, (((X.setCell ⟨B, 0, none⟩ x1).setCell ⟨B, 1, none⟩ x2).setCell ⟨B, 2, none⟩ x3).setCell ⟨B, 3, none⟩ x4 = Y ∧ Y.heap[B]? = some (.cells #[x1, x2, x3, x4] t) ∧ Y.heap.size = X.heap.size ∧
  (∀ b, b ≠ B → Y.heap[b]? = X.heap[b]?) ∧ (∀ n, n ≤ B → ∀ w, Below n w X → Below n w Y) := by
 refine ⟨_, rfl, by simp [jL, qW, h], by simp, fun b hb => by simp [jL, Ne.symm hb], fun n hn w hw => ?_⟩;exact (((hw.setCell hn _).setCell hn _).setCell hn _).setCell hn _
def uX (cs : List Cel) (p : Nat) (more : List Cel) : List Cel := cs.take p ++ more ++ cs.drop p
theorem zJI {w : World} {S : Nat → Prop} {a : Option Addr} {n c p : Nat} {xs : List Cel} (h : jC false w S (.slice a n c) xs) (hp : p ≤ xs.length) :
  ∃ X, jC false w S (.slice X (xs.length - p) (c - p)) (xs.drop p) ∧ ((c = p ∧ a = X) ∨ (¬ c = p ∧ a.map (·.add (p * 3)) = X)) := by
 obtain ⟨_, h2, h3⟩ := h.len;have := SliceR.part h (i := p) (j := xs.length) (m := c) hp (zC _) h2 (zC _);rw [List.take_of_length_le zAV] at this
 by_cases hcp : c = p
 ·exact ⟨a, by simpa only [sliced, if_pos hcp] using this, .inl ⟨hcp, rfl⟩⟩
 ·exact ⟨_, by simpa only [sliced, if_neg hcp] using this, .inr ⟨hcp, rfl⟩⟩
set_option maxRecDepth 100000 in
theorem zGe (ca vb : Option Addr) (cc vc p : Nat) (cs more : List Cel) (w w0 w1 : World) (S S2 : Nat → Prop) (o1 o2 : Bool) (h' : jC o1 w0 S (.slice ca cs.length cc) cs) (hm' : jC o2 w1 S2 (.slice vb more.length vc) more)
  (h0 : Below w0.heap.size w0 w) (h1 : Below w1.heap.size w1 w) (hp : p ≤ cs.length) (hs : cs.length ≤ 1000000) (hs2 : more.length ≤ 1000000) :
  Calls zV 168 #[.slice ca cs.length cc, .int .i64 p, .slice vb more.length vc] w (CellsSaid (uX cs p more) 0 w) := by
 have h : jC false w (fun _ => True) (.slice ca cs.length cc) cs := qG (qB _) (SliceR.read (fun _ _ h => h) h') (.all h0) (fun _ _ _ => trivial);have hm : jC false w (fun _ => True) (.slice vb more.length vc) more := qG (qB _) (SliceR.read (fun _ _ h => h) hm') (.all h1) (fun _ _ _ => trivial);have HC1 := zA (zCC _ cs p p w (fun _ => True) false h);have hsp : vY cs.length p p = true := by unfold vY; simp; omega
 rw [hsp] at HC1;obtain ⟨_, hccl, hccm⟩ := h.len;obtain ⟨X, hX, hcq⟩ := zJI h hp
 have hHC : ∀ W, Below w.heap.size w W → ∀ g, W.heap[g]? = some (.cells #[.slice ca p cc, .slice vb more.length vc, .slice X (cs.length - p) (cc - p)] 44) → Calls zV 179 #[.slice (some ⟨g, 0, none⟩) 3 3] W fun e w' => ∃ v', e = .returned v' ∧ jC true w' (fun b => W.heap.size ≤ b) v' (uX cs p more) ∧ Below W.heap.size W w' := by
  intro W hW g hg;have ha := (SliceR.below (qB _) h hW).take (i := p) hp;have hb := SliceR.below (qB _) hm hW;have hc := SliceR.below (qB _) hX hW
  have := zDE g 3 #[.slice ca p cc, .slice vb more.length vc, .slice X (cs.length - p) (cc - p)] [cs.take p, more, cs.drop p] W (fun _ => True) hg (fun k xs hk => by
   match k, hk with
   | 0, hk => cases hk; exact ⟨_, rfl, ha⟩
   | 1, hk => cases hk; exact ⟨_, rfl, hb⟩
   | 2, hk => cases hk; exact ⟨_, rfl, hc⟩) (by simp [lens]; omega) qE rfl
  simpa [uX] using this
 have HC := zA hHC;have hBd : ∀ X, Below w.heap.size w (w.alloc X).drew := fun X => ((Below.refl _ _).alloc (zC _) X).drew;unfold maxLen at hccm;have u0 : (0 : Int) ≤ (p : Int) := Int.natCast_nonneg _;have u1 : (p : Int) ≤ (cc : Int) := by omega
 have u2 : (p : Int) ≤ (cs.length : Int) := by omega
 clear h hm h' hm' hX hHC hsp;rcases hcq with ⟨rfl, rfl⟩ | ⟨hcq, rfl⟩
 ·rw [Nat.sub_self, show cs.length - cc = 0 by omega] at HC
  go_enter Tryz.func168, Tryz.ntmps168;go_wp2_with (go_at_call 213; refine HC1.out.mono ?_; rintro e w2 ⟨rfl, rfl⟩);go_region_held3 (fun _ => True) (trivial) ((go_at_call 179; refine (HC.out _ (hBd _) _ (jD _ _ rfl)).mono ?_; rintro e w5 ⟨v5, rfl, hv5, hb5⟩; obtain ⟨a5, c5, hv5e⟩ := hv5.slice; subst hv5e));go_wp2_with fail;go_ret2;exact ⟨_, rfl, qG (qB _) hv5 (Keeps.refl _ _) (fun b h _ => zD (hBd _).size h), jF (hBd _) hb5⟩
 ·skip
  go_enter Tryz.func168, Tryz.ntmps168;go_wp2_with (go_at_call 213; refine HC1.out.mono ?_; rintro e w2 ⟨rfl, rfl⟩);go_region_held3 (fun _ => True) (trivial) ((go_at_call 179; refine (HC.out _ (hBd _) _ (jD _ _ rfl)).mono ?_; rintro e w5 ⟨v5, rfl, hv5, hb5⟩; obtain ⟨a5, c5, hv5e⟩ := hv5.slice; subst hv5e));go_wp2_with fail;go_ret2;exact ⟨_, rfl, qG (qB _) hv5 (Keeps.refl _ _) (fun b h _ => zD (hBd _).size h), jF (hBd _) hb5⟩
end Go.Proofs.YtjgeadoncanheaaGreatDoor
namespace Go.Proofs.YtjgeadoncanheaaGreatDoor
open Go.RowKit
open Go.Proofs.Qw
attribute [local go_sem] Oper.semAt_some
attribute [local go_sem] Oper.semAt_some
open _root_.Go.Lib renaming hid → zA
open _root_.Nat renaming le_refl → zC
open _root_.Go renaming bodyPost_ret → zM
structure Kb (n₀ base top : Nat) (W W' : World) : Prop where
 below : Below n₀ W W'
 cells : ∀ k o, base ≤ k → k < top → W.heap[k]? = some o → o.isCells = true → W'.heap[k]? = some o
theorem Kb.t {n₀ base top : Nat} {A B C : World} (h : Kb n₀ base top A B) (k : Kb n₀ base top B C) : Kb n₀ base top A C := ⟨h.below.trans k.below, fun i o hi ht ho hc => k.cells i o hi ht (h.cells i o hi ht ho hc) hc⟩
theorem Kb.of_kp {n₀ base top : Nat} {A B : World} (h : Kp n₀ base A B) : Kb n₀ base top A B := ⟨h.below, fun i o hi _ ho hc => h.cells i o hi ho hc⟩
theorem Kb.b {n₀ base top : Nat} {w : World} (hn : n₀ ≤ w.heap.size) (W : World) (l : Nat) (o o' : Obj) (hl : w.heap.size ≤ l) (h : W.heap[l]? = some o) (hc : o.isCells = false) (hw : o.isWalk = false) : Kb n₀ base top W (W.putObj l o') := .of_kp (Kp.b hn W l o o' hl h hc hw)
theorem Kb.of_below {n₀ base top : Nat} {W W' : World} (hn : n₀ ≤ W.heap.size) (hb : Below W.heap.size W W') : Kb n₀ base top W W' := .of_kp (.of_below hn hb)
theorem Kb.of_top {n₀ base top Z : Nat} {W W' : World} (hn : n₀ ≤ Z) (ht : top ≤ Z) (hb : Below Z W W') : Kb n₀ base top W W' := ⟨hb.mono hn, fun k _ _ hk h _ => (hb.block k qC).trans h⟩
theorem Kb.setCell {n₀ base top : Nat} (W : World) {B o : Nat} (h1 : n₀ ≤ B) (h2 : B < base ∨ top ≤ B) (v : Value) : Kb n₀ base top W (W.setCell ⟨B, o, none⟩ v) :=
 ⟨(Below.refl _ _).setCell h1 _, fun k u hk ht h _ => by rw [Below.heap_setCell _ _ _ _ jB]; exact h⟩
theorem zGm {P : Program} {F : Fence} {n : Nat} {α : Type} {g : Operand} {ps : Array Tmp} {assign body : Code} {Q : Exit → Act → World → Prop} {a : Act} {w : World}
  (hro : F.round = none) (h1 : 1 ≤ n) {gf : Nat} {lb : Array Value} (hg : a.eval g = .func (.func gf) #[] lb) (hFg : F.fn gf) (eg : ∀ args w, (callFunc gf args).run P w = .ok (.enter gf args) w)
  {encs : α → Array Value} {n₀ base top : Nat} {S Sp : List α → Prop} {N : Nat} {w0 : World} (hseq : SeqStopsK F (n - 1) P gf lb encs (Kb n₀ base top) S Sp N w0)
  (hn : n₀ ≤ w.heap.size) (hb0 : Below w0.heap.size w0 w) (hps : ∀ x, (encs x).size = ps.size)
  (I : List α → World → Prop) (Ix : Code → List α → World → Prop) (hI : OwnFrom w.heap.size I) (hIx : ∀ c, OwnFrom w.heap.size (Ix c)) (h0 : I [] w) (hIz : ∀ pre W, I pre W → w.heap.size ≤ W.heap.size)
  (rc : α → Array Value) (rt : TypeId) (act : Nat → α → Act)
  (hassign : ∀ (l : Nat) (pre : List α) (x : α) (W : World) (K : Act → World → Prop) (Bx : Nat), Bx = W.heap.size → I pre W → K (act Bx x) (W.alloc (.cells (rc x) rt)) →
   assign.wpIn (F.inRound l) (n - 1 - 1) P (Exit.then K (fun _ _ _ => False)) { tmps := (ps.zip (encs x)).foldl (fun t (p, v) => t.setIfInBounds p v) a.tmps, defers := [] } W)
  (hbody : ∀ (l : Nat) (pre : List α) (x : α) (Bx : Nat) (W : World), I pre W → w.heap.size ≤ Bx → W.heap[Bx]? = some (.cells (rc x) rt) → pre.length < N → body.wpIn (F.inRound l) (n - 1 - 1) P (ownPostG w.heap.size (Kb n₀ base top) I Ix (pre ++ [x]) W) (act Bx x) W)
  (hdone : ∀ (D : Nat) (xs : List α) (W : World), w.heap.size ≤ D → S xs → I xs W → W.heap[D]? = some (.deferred (some [])) → Q .normal { a with defers := { target := .collected D, args := #[] } :: a.defers } W)
  (hstop : ∀ (D : Nat) (c : Code) (pre : List α) (W : World), w.heap.size ≤ D → Sp pre → Ix c pre W → W.heap[D]? = some (.deferred (some [])) → c.wpIn F n P Q { a with defers := { target := .collected D, args := #[] } :: a.defers } W) :
  (Code.rangeFunc g ps assign body).wpIn F n P Q a w := by
 refine wpIn_rangeFunc_ownH hro h1 hg hFg eg hseq (fun h k => h.t k) (Kb.b hn) hb0 hps I Ix hI hIx h0
  (fun x a' W => ∃ Bx, w.heap.size ≤ Bx ∧ W.heap[Bx]? = some (.cells (rc x) rt) ∧ a' = act Bx x) ?_ ?_ ?_ hdone hstop
 ·intro x a' _ X Y row hs hg hr
  obtain ⟨Bx, h1, h2, h3⟩ := hs;exact ⟨Bx, h1, (hg.block Bx (Array.getElem?_eq_some_iff.1 h2).1 (fun e => by obtain ⟨_, o, ho, hc⟩ := hr Bx e.symm; rw [h2] at ho; cases ho; cases hc)).trans h2, h3⟩
 ·intro l pre x W K hi hK
  exact hassign l pre x W K _ rfl hi (hK _ _ ((KeepsOthers.alloc _ _).from _) (Kb.of_below (Nat.le_trans hn (hIz _ _ hi)) ((Below.refl _ _).alloc (zC _) _)) (hI.alloc _ hi) ⟨_, hIz _ _ hi, jD _ _ rfl, rfl⟩)
 ·intro l pre x a' W hl hr hi ha hlt
  obtain ⟨Bx, h1, h2, rfl⟩ := ha;exact hbody l pre x Bx W hi h1 h2 hlt
set_option maxRecDepth 200000 in
theorem zHr (n l Bd Ba Bb base top : Nat) (v : Value) (d : Doc) (i p j q : Nat) (S : Nat → Prop) (J Jx : List (RowX d) → World → Prop) (w0 W : World) (hv : jE w0 S v d) (hb0 : Below w0.heap.size w0 W)
  (hbase : base ≤ Bd ∧ base ≤ Ba ∧ base ≤ Bb) (htop : Bd < top ∧ Ba < top ∧ Bb < top) (hD : W.heap[Bd]? = some (.cells #[v] 22)) (hA : W.heap[Ba]? = some (.cells #[.int .i64 i, .int .i64 p] 24)) (hB : W.heap[Bb]? = some (.cells #[.int .i64 j, .int .i64 q] 24))
  (hij : i ≤ j) (hj : j < d.length) (hok : ∀ k, i ≤ k → k ≤ j → zAs d (rowB d i p j q k)) (hlen : d.length ≤ 100000) (hJ : AbidesFrom W.heap.size J)
  (hY : ∀ (pre : List (RowX d)) (x : RowX d) W, J pre W → pre.length < 200000 → YieldAt Fence.wide (n - 1) Tryz.prog l (uH x) W fun e W' =>
   (e = .returned (.bool true) ∧ J (pre ++ [x]) W' ∧ Kb w0.heap.size base top W W') ∨ (e = .returned (.bool false) ∧ Jx (pre ++ [x]) W'))
  (h0 : J [] W) :
  CallsIn Fence.wide n Tryz.prog 209 #[.func (.yield l) #[] #[], .pointer (some ⟨Ba, 0, none⟩), .pointer (some ⟨Bb, 0, none⟩), .pointer (some ⟨Bd, 0, none⟩)] W fun e W' => (∃ v, e = .returned v) ∧
   ((∃ ys : List (RowX d), ys.map (·.1) = kI d i p j q (j + 1) ∧ J ys W') ∨ (∃ pre, True ∧ Jx pre W')) := by
 refine callsIn_of_wp Tryz.func209 rfl trivial ?_ rfl;simp only [Tryz.ntmps209, List.size_toArray, List.length_cons, List.length_nil, Nat.reduceAdd, Nat.reduceSub, Array.replicate_succ, Array.replicate_zero, List.push_toArray, List.append_toArray, List.nil_append, List.cons_append];have hwf : ∀ f, Fence.wide.fn f := fun _ => trivial;have hwd : Fence.wide.depth = none := rfl;obtain ⟨va, vc, rfl, hvc, hvm, hx⟩ := kP hv;have HX := zA hx;have HY := zA hY;have HOK := zA hok;have HJA := zA hJ;have HBK := zA (And.intro hD (And.intro hA hB));obtain ⟨p1, f1⟩ := blk hD;obtain ⟨p2, f2⟩ := blk hA;obtain ⟨p3, f3⟩ := blk hB;unfold maxLen at hvm;clear hx hv hY hok hJ hD hA hB
 gi_wp2_with fail
 clear p1 f1 p2 f2 p3 f3
 gi_loopw [5, 6, 7] (fun z _ _ wr => ∃ (k : Nat) (pre : List (RowX d)), i ≤ k ∧ k ≤ j + 1 ∧ pre.length ≤ k ∧ z = .int .i64 k ∧ Hid (pre.map (·.1) = kI d i p j q k) ∧ J pre wr ∧ Below w0.heap.size w0 wr ∧ Hid (wr.heap[Bd]? = some (.cells #[.slice va d.length vc] 22) ∧ wr.heap[Ba]? = some (.cells #[.int .i64 i, .int .i64 p] 24) ∧ wr.heap[Bb]? = some (.cells #[.int .i64 j, .int .i64 q] 24)) ∧ W.heap.size ≤ wr.heap.size)
  (fun z _ _ _ => j + 1 - (intOf z).toNat)
 case atStart => exact ⟨i, [], zC _, by omega, Nat.zero_le _, rfl, zA (zCM ..).symm, h0, hb0, HBK, zC _⟩
 case round =>
  obtain ⟨k, pre, hk1, hk2, hpl, rfl, HP, hJs, hb1, HBL, hz1⟩ := hrel;obtain ⟨p1, f1⟩ := blk HBL.out.1;obtain ⟨p2, f2⟩ := blk HBL.out.2.1;obtain ⟨p3, f3⟩ := blk HBL.out.2.2
  by_cases hlt : k ≤ j
  ·obtain ⟨l0, hl0, _⟩ := jO d k qC
   obtain ⟨b, o, la, lc, ca, cc, rfl, hAk⟩ := HX.out k l0 hl0;obtain ⟨_, c0, c1, c2, c3, _, _⟩ := hAk.below hb1;have HL0 := zA (zDb d (i := i) (p := p) (j := j) (q := q) hl0);have hd1 : Below wr.heap.size wr wr.drew := (Below.refl _ _).drew;have HD1 := zA hd1;have HJ1 := zA (zAv (X := wr) (Y := wr.drew) HJA.out hJs hd1);have i0 : (0 : Int) ≤ (k : Int) := Int.natCast_nonneg _;have i1 : (k : Int) < (d.length : Int) := by omega
   have hNext : ∀ w7, J (pre ++ [⟨rowB d i p j q k, HOK.out k hk1 hlt⟩]) w7 → Kb w0.heap.size base top wr.drew w7 → ∃ (k' : Nat) (pre : List (RowX d)), i ≤ k' ∧ k' ≤ j + 1 ∧ pre.length ≤ k' ∧ k' = k + 1 ∧ Hid (pre.map (·.1) = kI d i p j q k') ∧ J pre w7 ∧ Below w0.heap.size w0 w7 ∧ Hid (w7.heap[Bd]? = some (.cells #[.slice (some ⟨b, o, none⟩) d.length vc] 22) ∧ w7.heap[Ba]? = some (.cells #[.int .i64 i, .int .i64 p] 24) ∧ w7.heap[Bb]? = some (.cells #[.int .i64 j, .int .i64 q] 24)) ∧ W.heap.size ≤ w7.heap.size := by
    intro w7 hj7 hk7;refine ⟨k + 1, _, by omega, by omega, by simp; omega, rfl, zA ?_, hj7, (jF hb1 HD1.out).trans hk7.below, zA ⟨hk7.cells _ _ hbase.1 htop.1 HBL.out.1 rfl, hk7.cells _ _ hbase.2.1 htop.2.1 HBL.out.2.1 rfl, hk7.cells _ _ hbase.2.2 htop.2.2 HBL.out.2.2 rfl⟩, Nat.le_trans hz1 hk7.below.size⟩;rw [zCI d hk1, List.map_append, HP.out]
    rfl
   have HNX := zA hNext;have hYY := HY.out pre ⟨rowB d i p j q k, HOK.out k hk1 hlt⟩ wr.drew HJ1.out qC;have hrow : uH (⟨rowB d i p j q k, HOK.out k hk1 hlt⟩ : RowX d) = #[.int .i64 k, .agg #[.int .i64 ((if k = i then p else 0 : Nat) : Int), .int .i64 ((if k = j then q else l0.cells.length : Nat) : Int)]] := by unfold uH; simp only [HL0.out]
   rw [hrow] at hYY;clear hAk hl0 hNext hJs HJ1 HL0 hrow;rcases (show k = i ∧ k = j ∨ k = i ∧ ¬ k = j ∨ ¬ k = i ∧ k = j ∨ ¬ k = i ∧ ¬ k = j by omega) with ⟨e1, e2⟩ | ⟨e1, e2⟩ | ⟨e1, e2⟩ | ⟨e1, e2⟩
   ·rw [if_pos e1, if_pos e2] at hYY
    have hq1 : ((k : Int) == (i : Int)) = true := by simp; omega
    have hq2 : ((k : Int) == (j : Int)) = true := by simp; omega
    have hq3 : decide ((k : Int) ≤ (j : Int)) = true := by simp; omega
    try rw [show ((0 : Nat) : Int) = 0 from rfl] at hYY
    obtain ⟨fn, tmps, assign, body, hy, hR⟩ := hYY;clear e1 e2
    gi_wp2_with fail
    gi_region
    gi_wp2_with fail
    refine hR.mono ?_;rintro e w7 (⟨rfl, hJ7, hk7⟩ | ⟨rfl, hJx7⟩)
    ·gi_wp2_with fail
     obtain ⟨k', pre', g1, g2, g3, e3, g4, g5, g6, g7, g8⟩ := HNX.out w7 hJ7 hk7;go_roundw
     case rel => exact ⟨k', pre', g1, g2, g3, by rw [e3]; go_num, g4, g5, g6, g7, g8⟩
     case measure => simp [intOf]; omega
    ·gi_wp2_with fail
     refine zM (results_none rfl _ _ _) rfl ?_;exact ⟨⟨_, rfl⟩, .inr ⟨_, trivial, hJx7⟩⟩
   ·rw [if_pos e1, if_neg e2] at hYY
    have hq1 : ((k : Int) == (i : Int)) = true := by simp; omega
    have hq2 : ((k : Int) == (j : Int)) = false := by simp; omega
    have hq3 : decide ((k : Int) ≤ (j : Int)) = true := by simp; omega
    try rw [show ((0 : Nat) : Int) = 0 from rfl] at hYY
    obtain ⟨fn, tmps, assign, body, hy, hR⟩ := hYY;clear e1 e2
    gi_wp2_with fail
    gi_region
    gi_wp2_with fail
    refine hR.mono ?_;rintro e w7 (⟨rfl, hJ7, hk7⟩ | ⟨rfl, hJx7⟩)
    ·gi_wp2_with fail
     obtain ⟨k', pre', g1, g2, g3, e3, g4, g5, g6, g7, g8⟩ := HNX.out w7 hJ7 hk7;go_roundw
     case rel => exact ⟨k', pre', g1, g2, g3, by rw [e3]; go_num, g4, g5, g6, g7, g8⟩
     case measure => simp [intOf]; omega
    ·gi_wp2_with fail
     refine zM (results_none rfl _ _ _) rfl ?_;exact ⟨⟨_, rfl⟩, .inr ⟨_, trivial, hJx7⟩⟩
   ·rw [if_neg e1, if_pos e2] at hYY
    have hq1 : ((k : Int) == (i : Int)) = false := by simp; omega
    have hq2 : ((k : Int) == (j : Int)) = true := by simp; omega
    have hq3 : decide ((k : Int) ≤ (j : Int)) = true := by simp; omega
    try rw [show ((0 : Nat) : Int) = 0 from rfl] at hYY
    obtain ⟨fn, tmps, assign, body, hy, hR⟩ := hYY;clear e1 e2
    gi_wp2_with fail
    gi_region
    gi_wp2_with fail
    refine hR.mono ?_;rintro e w7 (⟨rfl, hJ7, hk7⟩ | ⟨rfl, hJx7⟩)
    ·gi_wp2_with fail
     obtain ⟨k', pre', g1, g2, g3, e3, g4, g5, g6, g7, g8⟩ := HNX.out w7 hJ7 hk7;go_roundw
     case rel => exact ⟨k', pre', g1, g2, g3, by rw [e3]; go_num, g4, g5, g6, g7, g8⟩
     case measure => simp [intOf]; omega
    ·gi_wp2_with fail
     refine zM (results_none rfl _ _ _) rfl ?_;exact ⟨⟨_, rfl⟩, .inr ⟨_, trivial, hJx7⟩⟩
   ·rw [if_neg e1, if_neg e2] at hYY
    have hq1 : ((k : Int) == (i : Int)) = false := by simp; omega
    have hq2 : ((k : Int) == (j : Int)) = false := by simp; omega
    have hq3 : decide ((k : Int) ≤ (j : Int)) = true := by simp; omega
    try rw [show ((0 : Nat) : Int) = 0 from rfl] at hYY
    obtain ⟨fn, tmps, assign, body, hy, hR⟩ := hYY;clear e1 e2
    gi_wp2_with fail
    gi_region
    gi_wp2_with fail
    refine hR.mono ?_;rintro e w7 (⟨rfl, hJ7, hk7⟩ | ⟨rfl, hJx7⟩)
    ·gi_wp2_with fail
     obtain ⟨k', pre', g1, g2, g3, e3, g4, g5, g6, g7, g8⟩ := HNX.out w7 hJ7 hk7;go_roundw
     case rel => exact ⟨k', pre', g1, g2, g3, by rw [e3]; go_num, g4, g5, g6, g7, g8⟩
     case measure => simp [intOf]; omega
    ·gi_wp2_with fail
     refine zM (results_none rfl _ _ _) rfl ?_;exact ⟨⟨_, rfl⟩, .inr ⟨_, trivial, hJx7⟩⟩
  ·obtain rfl : k = j + 1 := by omega
   gi_wp2_with fail
   go_end0;exact ⟨⟨_, rfl⟩, .inl ⟨pre, HP.out, hJs⟩⟩
theorem zDz {F : Fence} {m : Nat} {P : Program} (w : World) {ops : Array Oper} {rest : List Oper} {o : Oper} {a : Act} {Q : Exit → Act → World → Prop} (hgd : o.guard = none) (s x : Operand) (st tx : TypeId)
  (ho : o.op = .call { callee := .builtin .append, args := #[s, x], argTypes := #[st, tx] }) {t : TypeId} {k : Nat} (hT : RowT P st t k) {α : Type} {R : Rd α} (hE : Elt t k R) (n : Nat) (v y : Value) {xs ys : List α} {news : List Value} (hs : a.eval s = v) (hx : a.eval x = y)
  (h1 : SliceR t k R true w (fun b => n ≤ b) v xs) (hn : n ≤ w.heap.size) (hsrc : Src P k tx y ys.length news w) (hnew : NewsR k R w (fun b => n ≤ b) news ys) (hlen : xs.length + ys.length ≤ 100000000)
  (h : ∀ v' w', SliceR t k R true w' (fun b => n ≤ b) v' (xs ++ ys) → Below n w w' → w.grownBy w' v.ownBlock → (v'.ownBlock = v.ownBlock ∨ v'.ownBlock = some w.heap.size) → wpListIn F m P ops Q rest (a.put o.dst v') w') :
  wpListIn F m P ops Q (o :: rest) a w := by
 refine wpListIn_plain hgd fun K hK => ?_;obtain ⟨v', w', hr, h2, h3, h4, h5⟩ := zDf (P := P) (ty := o.type) hT hE h1 hn hsrc hnew hlen;unfold Oper.wpIn;refine ⟨?_, ?_⟩
 ·simp [Oper.about, ho, resolve, Target.leads, Sem.run_pure]
 ·rw [Oper.semAt_plain F _ _ (by rw [ho]; intro c hc'; cases hc')]
  simp [execOp, ho, resolve, invoke, builtin, hs, hx, hr, Result.andThen];exact hK _ _ (h v' w' h2 h3 h4 h5)
theorem zDZ {α : Type} {t : TypeId} {k : Nat} {R : Rd α} {w w' : World} {S : Nat → Prop} {v : Value} {xs : List α} (h : SliceR t k R true w S v xs) (hne : v = .slice none 0 0 ∨ xs ≠ []) (hg : w.grownBy w' v.ownBlock) : KeepsOthers w w' :=
 KeepsOthers.of_grownBy hg fun j o ej hj => by
  obtain ⟨a, c, rfl, _, _, hx⟩ := h;rcases hx with ⟨rfl, hc0⟩ | ⟨b, o', rfl, _, _, hf, _⟩
  ·rcases hne with e | e
   ·cases e
    cases ej
   ·exact absurd rfl e
  ·obtain ⟨cs, h1, _⟩ := hf rfl
   have ej : some b = some j := ej;cases ej;rw [h1] at hj;cases hj
   rfl
end Go.Proofs.YtjgeadoncanheaaGreatDoor
