/- Parts of the proof. -/
import Derived.Test.YtjgeadoncanheaaGreatDoorDocEachT
import Derived.Test.YtjgeadoncanheaaGreatDoorDocDeleteT
import Derived.Test.YtjgeadoncanheaaGreatDoorRefOwnT
import Derived.Deep.Cut
import Derived.Deep.CutRange
import Derived.Test.YtjgeadoncanheaaGreatDoorAttrWalkT
set_option linter.unusedVariables false
set_option linter.unusedSimpArgs false
set_option maxHeartbeats 8000000
namespace Go.Proofs.YtjgeadoncanheaaGreatDoor
open Go.RowKit
open Go.Proofs.Qw
open _root_.Go.Lib renaming hid → zA
open _root_.Go.Proofs.Tryz renaming prog → zV
open _root_.Go.Proofs.Qw renaming jY → zZ
theorem DocSaid.from {x : Doc × Int} {w W : World} {e : Ending} {w' : World} (h : DocSaid x W e w') (hb : Below w.heap.size w W) : DocSaid x w e w' := by
 obtain ⟨v', h1, h2, h3⟩ := h;exact ⟨v', h1, SliceR.stable (zZ true) h2 (Keeps.refl _ _) (fun b h _ => Nat.le_trans hb.size h), jH hb h3⟩
theorem zGA {F : Cel → Cel} {cs : List Cel} {i j : Nat} (hij : i ≤ j) (hj : j ≤ cs.length) : xW F cs i j = (xT F i j cs, 0) := by
 unfold xW yT;rw [if_pos jD]
 simp
theorem zJy (v : Value) (cs : List Cel) (i j s c : Int) (b1 b2 : Nat) (w : World) (S : Nat → Prop) (own : Bool) (h : jE own w S v cs) (hs : cs.length ≤ 1000000) (h1 : w.heap[b1]? = some (.cells #[.int .i64 s] 3)) (h2 : w.heap[b2]? = some (.cells #[.int .i64 c] 3)) :
  Calls zV 190 #[v, .int .i64 i, .int .i64 j, .pointer (some ⟨b1, 0, none⟩), .pointer (some ⟨b2, 0, none⟩)] w (CellsSaid (xW (vP s c) cs i j).1 (xW (vP s c) cs i j).2 w) := by
 have HC := zA (zIK v cs i j s c w S own h hs);obtain ⟨a, cc, rfl⟩ := h.slice;obtain ⟨p1, f1⟩ := blk h1;obtain ⟨p2, f2⟩ := blk h2
 generalize xW (vP s c) cs i j = r at *
 clear h h1 h2;go_enter Tryz.func190, Tryz.ntmps190;go_wp2_with (go_at_call 191; refine HC.out.mono ?_; intro e w2 hsaid; obtain ⟨v', rfl, hv', hb'⟩ := hsaid);go_ret2;exact ⟨_, rfl, hv', hb'⟩
theorem zII (v : Value) (cs : List Cel) (i j : Int) (hr : List UInt8) (b1 : Nat) (w : World) (S : Nat → Prop) (own : Bool) (h : jE own w S v cs) (hs : cs.length ≤ 1000000) (he : EnvT w) (hh : hr.length ≤ 1000000) (h1 : w.heap[b1]? = some (.cells #[.string ⟨hr.toArray⟩] 9)) :
  Calls zV 188 #[v, .int .i64 i, .int .i64 j, .pointer (some ⟨b1, 0, none⟩)] w (CellsSaid (zAg hr cs i j).1 (zAg hr cs i j).2 w) := by
 have HC := zA (zHX v cs i j hr w S own h hs he hh);obtain ⟨a, cc, rfl⟩ := h.slice;obtain ⟨p1, f1⟩ := blk h1
 generalize zAg hr cs i j = r at *
 clear h h1 he hh;go_enter Tryz.func188, Tryz.ntmps188;go_wp2_with (go_at_call 189; refine HC.out.mono ?_; intro e w2 hsaid; obtain ⟨v', rfl, hv', hb'⟩ := hsaid);go_ret2;exact ⟨_, rfl, hv', hb'⟩
def setD (s c : Int) (d : Doc) (a b : Ps) : Doc × Int := vK (fun cs i j => xT (vP s c) i j cs) d a b
set_option maxRecDepth 100000 in
theorem zFK (v : Value) (d : Doc) (a b : Ps) (s c : Int) (w : World) (S : Nat → Prop) (h : jC w S v d) (he : EnvT w) (hs : Small d) (hf : Fits d) :
  Calls zV 130 #[v, posV a, posV b, .int .i64 s, .int .i64 c] w (DocSaid (setD s c d a b) w) := by
 obtain ⟨W1, hW1⟩ : ∃ W1, (((w.alloc (.cells #[.int .i64 a.line, .int .i64 a.col] 24)).alloc (.cells #[.int .i64 b.line, .int .i64 b.col] 24)).alloc (.cells #[.int .i64 s] 3)).alloc (.cells #[.int .i64 c] 3) = W1 := ⟨_, rfl⟩;have hB : Below w.heap.size w W1 := hW1 ▸ ((((Below.refl _ _).alloc (Nat.le_refl _) _).alloc qT _).alloc jD _).alloc jD _;have k0 : W1.heap[w.heap.size]? = some (.cells #[.int .i64 a.line, .int .i64 a.col] 24) := hW1 ▸ jI _ _ (jI _ _ (jI _ _ (jF _ _ rfl)));have k1 : W1.heap[w.heap.size + 1]? = some (.cells #[.int .i64 b.line, .int .i64 b.col] 24) := hW1 ▸ jI _ _ (jI _ _ (jF _ _ qT));have k2 : W1.heap[w.heap.size + 2]? = some (.cells #[.int .i64 s] 3) := hW1 ▸ jI _ _ (jF _ _ qT);have k3 : W1.heap[w.heap.size + 3]? = some (.cells #[.int .i64 c] 3) := hW1 ▸ jF _ _ qT
 have HC := zA (zFl v d a b 190 #[.pointer (some ⟨w.heap.size + 2, 0, none⟩), .pointer (some ⟨w.heap.size + 3, 0, none⟩)] (fun cs i j => xT (vP s c) i j cs) W1 S (h.below (zZ _) hB) (he.below hB) hs hf (fun c i j => zBX _ _ _ _)
  (enters_of Tryz.func190 qC rfl) (fun W v cs i j hW hv hij hj hl => by
   have := zJy v cs i j s c (w.heap.size + 2) (w.heap.size + 3) W _ true hv hl (jG hW k2) (jG hW k3);rw [zGA hij hj] at this;exact this))
 have HP : Hid (∀ p : Ps, posV p = .agg #[.int .i64 p.line, .int .i64 p.col]) := zA fun _ => rfl;have HR : Hid (setD s c d a b = vK (fun cs i j => xT (vP s c) i j cs) d a b) := zA rfl;have H1 := zA hB;obtain ⟨p1, f1⟩ := blk k0;obtain ⟨p2, f2⟩ := blk k1;obtain ⟨va, vc, rfl⟩ := h.slice
 generalize vK (fun cs i j => xT (vP s c) i j cs) d a b = r at *
 clear h he hs hf k0 k1 k2 k3 hB;rw [HP.out a, HP.out b] at HC ⊢;go_enter Tryz.func130, Tryz.ntmps130;go_wp2_with (go_at_call 187; refine HC.out.mono ?_; intro e w2 hsaid; have hsaid := DocSaid.from hsaid H1.out; obtain ⟨v', rfl, hv', hb'⟩ := hsaid);go_ret2;rw [HR.out];exact ⟨_, rfl, hv', hb'⟩
def uB (hr : List UInt8) (d : Doc) (a b : Ps) : Doc × Int := if xN hr = true then vK (fun cs i j => xT (yZ hr) i j cs) d a b else ([], 1)
set_option maxRecDepth 100000 in
theorem zFk (v : Value) (d : Doc) (a b : Ps) (hr : List UInt8) (w : World) (S : Nat → Prop) (h : jC w S v d) (he : EnvT w) (hs : Small d) (hf : Fits d) (hh : hr.length ≤ 1000000) :
  Calls zV 127 #[v, posV a, posV b, .string ⟨hr.toArray⟩] w (DocSaid (uB hr d a b) w) := by
 obtain ⟨W1, hW1, hB, hz, k0, k1, k2⟩ := zDl w (.int .i64 a.line) (.int .i64 a.col) (.int .i64 b.line) (.int .i64 b.col) (.string ⟨hr.toArray⟩) 9;have HB : Hid (∀ W, Below W1.heap.size W1 W → W.heap[w.heap.size]? = some (.cells #[.int .i64 a.line, .int .i64 a.col] 24) ∧ W.heap[w.heap.size + 1]? = some (.cells #[.int .i64 b.line, .int .i64 b.col] 24)) := zA fun W hW => ⟨jG hW k0, jG hW k1⟩;have HT : Hid (Calls zV 126 #[.string ⟨hr.toArray⟩] W1 fun e w' => e = .returned (.bool (kN hr)) ∧ Below W1.heap.size W1 w') := zA (zDx ⟨hr.toArray⟩ W1 (he.below hB) zEk)
 have HC : Hid (xN hr = true → ∀ W, Below W1.heap.size W1 W → Calls zV 187 #[v, posV a, posV b, .func (.func 188) #[] #[.pointer (some ⟨w.heap.size + 2, 0, none⟩)]] W (DocSaid (vK (fun cs i j => xT (yZ hr) i j cs) d a b) W)) := zA fun hlk W hW =>
  zFl v d a b 188 #[.pointer (some ⟨w.heap.size + 2, 0, none⟩)] (fun cs i j => xT (yZ hr) i j cs) W S ((h.below (zZ _) hB).below (zZ _) hW) ((he.below hB).below hW) hs hf (fun c i j => zBX _ _ _ _)
   (enters_of Tryz.func188 qC rfl) (fun X v cs i j hX hv hij hj hl => by
    have := zII v cs i j hr (w.heap.size + 2) X _ true hv hl (((he.below hB).below hW).below hX) hh (jG hX (jG hW k2));unfold zAg at this;rw [if_pos hlk, zGA hij hj] at this;exact this)
 have HP : Hid (∀ p : Ps, posV p = .agg #[.int .i64 p.line, .int .i64 p.col]) := zA fun _ => rfl;have HR : Hid (uB hr d a b = if xN hr = true then vK (fun cs i j => xT (yZ hr) i j cs) d a b else ([], 1)) := zA rfl;have HL : Hid (xN hr = (decide (hr = []) || kN hr)) := zA rfl;have H1 := zA hB;have hs1 := hB.size;have hw1 : Below W1.heap.size W1 W1 := Below.refl _ _;obtain ⟨p1, f1⟩ := blk k0;obtain ⟨p2, f2⟩ := blk k1;obtain ⟨p3, f3⟩ := blk k2;obtain ⟨va, vc, rfl⟩ := h.slice
 generalize vK (fun cs i j => xT (yZ hr) i j cs) d a b = r at *
 clear h he hs hf k0 k1 k2 hB hh;rw [HP.out a, HP.out b] at HC ⊢
 by_cases hn : hr = []
 ·have HC := zA (HC.out (by rw [HL.out, decide_eq_true hn]; rfl))
  have HR : Hid (uB hr d a b = r) := zA (HR.out.trans (if_pos (by rw [HL.out, decide_eq_true hn]; rfl)));have hne : hr.isEmpty = true := by simpa using hn
  clear hn;go_enter Tryz.func127, Tryz.ntmps127;go_wp2_with (go_at_call 187; refine (HC.out _ hw1).mono ?_; intro e w2 hsaid; have hsaid := DocSaid.from hsaid H1.out; obtain ⟨v', rfl, hv', hb'⟩ := hsaid);go_ret2;rw [HR.out];exact ⟨_, rfl, hv', hb'⟩
 ·have hne : hr.isEmpty = false := by simpa using hn
  cases htg : kN hr
  ·have HR : Hid (uB hr d a b = ([], 1)) := zA (HR.out.trans (if_neg (by rw [HL.out, decide_eq_false hn, htg]; simp)))
   rw [htg] at HT;clear htg;go_enter Tryz.func127, Tryz.ntmps127;go_wp2_with (go_at_call 126; refine HT.out.mono ?_; rintro e w2 ⟨rfl, hb2⟩);go_ret2;unfold DocSaid;rw [HR.out];exact ⟨_, rfl, SliceR.nil _ _ _ _ _ _, H1.out.trans (hb2.mono hs1)⟩
  ·have hlk : xN hr = true := by rw [HL.out, htg]; simp
   have HC := zA (HC.out hlk);have HR : Hid (uB hr d a b = r) := zA (HR.out.trans (if_pos hlk));rw [htg] at HT;clear htg hlk;go_enter Tryz.func127, Tryz.ntmps127;go_wp2_with (first | (go_at_call 126; refine HT.out.mono ?_; rintro e w2 ⟨rfl, hb2⟩; obtain ⟨q1, g1⟩ := blk (HB.out _ hb2).1; obtain ⟨q2, g2⟩ := blk (HB.out _ hb2).2) | (go_at_call 187; refine (HC.out _ hb2).mono ?_; intro e w3 hsaid; have hsaid := DocSaid.from hsaid (H1.out.trans (hb2.mono hs1)); obtain ⟨v', rfl, hv', hb'⟩ := hsaid));go_ret2;rw [HR.out];exact ⟨_, rfl, hv', hb'⟩
end Go.Proofs.YtjgeadoncanheaaGreatDoor
namespace Go.Proofs.Qw
open Go.RowKit Go.Proofs.YtjgeadoncanheaaGreatDoor
structure St where
 lines : Doc
 anc : Ps
 foc : Ps
 on : Int
 off : Int
 deriving DecidableEq, Inhabited
def noS : St := ⟨[], ⟨0, 0⟩, ⟨0, 0⟩, 0, 0⟩
def mayS (s : St) : Bool := mayD s.lines && (isD s.lines s.anc && (isD s.lines s.foc && (bits .andNot .i64 s.on 15 == 0 && (bits .andNot .i64 s.off 15 == 0 && bits .and .i64 s.on s.off == 0))))
def qV (s : St) : Ps × Ps := if 0 < cmpP s.anc s.foc then (s.foc, s.anc) else (s.anc, s.foc)
abbrev stV (v : Value) (s : St) : Value := .agg #[v, .int .i64 s.anc.line, .int .i64 s.anc.col, .int .i64 s.foc.line, .int .i64 s.foc.col, .int .i64 s.on, .int .i64 s.off]
theorem xC (w : World) (v : Value) (s : St) : ∃ W1, w.alloc (.cells #[v, .int .i64 s.anc.line, .int .i64 s.anc.col, .int .i64 s.foc.line, .int .i64 s.foc.col, .int .i64 s.on, .int .i64 s.off] 26) = W1 ∧ Below w.heap.size w W1 ∧ w.heap.size + 1 = W1.heap.size ∧
  W1.heap[w.heap.size]? = some (.cells #[v, .int .i64 s.anc.line, .int .i64 s.anc.col, .int .i64 s.foc.line, .int .i64 s.foc.col, .int .i64 s.on, .int .i64 s.off] 26) :=
 ⟨_, rfl, (Below.refl _ _).alloc (Nat.le_refl _) _, by simp, jF _ _ rfl⟩
def StSaid (x : St × Int) (w : World) (e : Ending) (w' : World) : Prop := ∃ v', e = .returned (.tuple #[stV v' x.1, .int .i64 x.2]) ∧ DocR true w' (fun b => w.heap.size ≤ b) v' x.1.lines ∧ Below w.heap.size w w'
theorem StSaid.from {x : St × Int} {w W : World} {e : Ending} {w' : World} (h : StSaid x W e w') (hb : Below w.heap.size w W) : StSaid x w e w' := by
 obtain ⟨v', h1, h2, h3⟩ := h;exact ⟨v', h1, SliceR.stable (jY true) h2 (Keeps.refl _ _) (fun b h _ => Nat.le_trans hb.size h), jH hb h3⟩
theorem xK {w W : World} (h : Below w.heap.size w W) (X : Obj) : Below w.heap.size w (W.alloc X) := h.alloc h.size X
theorem vI {w W : World} (h : Below w.heap.size w W) (X Y : Obj) : Below w.heap.size w ((W.alloc X).alloc Y) := xK (xK h X) Y
theorem zBH {w W : World} (h : Below w.heap.size w W) (X Y Z : Obj) : Below w.heap.size w (((W.alloc X).alloc Y).alloc Z) := xK (vI h X Y) Z
theorem on1 {w : World} {B : Nat} {cs : Array Value} {t : TypeId} (h : w.heap[B]? = some (.cells cs t)) : ∀ X k, (w.alloc X).cell? ⟨B, k, none⟩ = cs[k]? := fun X _ => jS (jI _ X h)
theorem on2 {w : World} {B : Nat} {cs : Array Value} {t : TypeId} (h : w.heap[B]? = some (.cells cs t)) : ∀ X Y k, ((w.alloc X).alloc Y).cell? ⟨B, k, none⟩ = cs[k]? := fun X Y _ => jS (jI _ Y (jI _ X h))
theorem zDX (a b : Ps) : (0 < cmpP a b) = (cmpP b a < 0) := by
 obtain ⟨a, c⟩ := a;obtain ⟨b, d⟩ := b;simp only [cmpP, cmpI, eq_iff_iff, ne_eq]
 split <;> split <;> (try split) <;> (try split) <;> (try split) <;> (try split) <;> simp_all <;> omega
theorem zFP (x : Int) (hx : -9223372036854775808 ≤ x ∧ x ≤ 9223372036854775807) : (bits .andNot .i64 x 15 == 0) = (decide (0 ≤ x) && decide (x ≤ 15)) := by
 by_cases h : 0 ≤ x ∧ x ≤ 15
 ·obtain ⟨n, rfl⟩ := Int.eq_ofNat_of_zero_le h.1
  have H : ∀ n : Fin 16, (bits .andNot .i64 (n.val : Int) 15 == 0) = true := by decide +kernel
  have h1 := H ⟨n, by omega⟩;simp only at h1;rw [h1, decide_eq_true h.1, decide_eq_true h.2]
  rfl
 ·have hne : bits .andNot .i64 x 15 ≠ 0 := by
   intro e;unfold bits at e;simp only at e
   have hz : (BitVec.ofInt 64 x &&& ~~~BitVec.ofInt 64 15).toNat = 0 := by
    have hlt := (BitVec.ofInt 64 x &&& ~~~BitVec.ofInt 64 15).isLt;have e' : IntKind.i64.wrap ((BitVec.ofInt 64 x &&& ~~~BitVec.ofInt 64 15).toNat : Int) = 0 := e
    generalize (BitVec.ofInt 64 x &&& ~~~BitVec.ofInt 64 15).toNat = m at e' hlt
    have e2 : (if (true && decide ((m : Int) % 2 ^ 64 ≥ 2 ^ 63)) = true then (m : Int) % 2 ^ 64 - 2 ^ 64 else (m : Int) % 2 ^ 64) = 0 := e';simp only [Bool.true_and, decide_eq_true_eq] at e2
    split at e2 <;> omega
   have hz2 : BitVec.ofInt 64 x &&& ~~~BitVec.ofInt 64 15 = 0#64 := BitVec.eq_of_toNat_eq (by simpa using hz)
   have h3 : BitVec.ofInt 64 x = BitVec.ofInt 64 x &&& BitVec.ofInt 64 15 := by
    clear hz e
    generalize BitVec.ofInt 64 15 = c at *
    apply BitVec.eq_of_getLsbD_eq;intro i hi;have := congrArg (fun v => v.getLsbD i) hz2;simp [hi] at this;simp only [BitVec.getLsbD_and];cases ha : (BitVec.ofInt 64 x).getLsbD i
    ·rfl
    ·simp [ha] at this ⊢
     exact this
   have h4 : (BitVec.ofInt 64 x).toNat ≤ 15 := by
    rw [h3, BitVec.toNat_and];exact Nat.le_trans Nat.and_le_right jA
   rw [BitVec.toNat_ofInt] at h4
   omega
  rw [beq_eq_false_iff_ne.2 hne]
  by_cases h0 : 0 ≤ x
  ·rw [decide_eq_true h0, decide_eq_false (fun h1 => h ⟨h0, h1⟩)]; rfl
  ·rw [decide_eq_false h0]; rfl
end Go.Proofs.Qw
namespace Go.Proofs.YtjgeadoncanheaaGreatDoor
open Go.RowKit
open Go.Proofs.Qw
theorem uU {fn : Func} {p u : Tmp} (h : fn.results = #[.cell p 24, .cell u 24]) (tmps : Array Value) (w : World) (B C : Nat) (a b c d : Value) (hp : tmps.getD p undef = .pointer (some ⟨B, 0, none⟩)) (hu : tmps.getD u undef = .pointer (some ⟨C, 0, none⟩))
  (h1 : w.heap[B]? = some (.cells #[a, b] 24)) (h2 : w.heap[C]? = some (.cells #[c, d] 24)) : (results fn tmps).run Tryz.prog w = .ok (.tuple #[.agg #[a, b], .agg #[c, d]]) w := by
 have hp' : tmps[p]?.getD undef = .pointer (some ⟨B, 0, none⟩) := by simpa using hp
 have hu' : tmps[u]?.getD undef = .pointer (some ⟨C, 0, none⟩) := by simpa using hu
 have e1 := run_loadVar_row (P := Tryz.prog) w B 24 24 _ _ _ h1 Tryz.underlying24 rfl qC;have e2 := run_loadVar_row (P := Tryz.prog) w C 24 24 _ _ _ h2 Tryz.underlying24 rfl qC;simp [results, h, hp', hu', asAddr, e1, e2]
theorem zFv {fn : Func} {p : Tmp} (h : fn.results = #[.cell p 26]) (tmps : Array Value) (w : World) (B : Nat) (a b c d e f g : Value) (hp : tmps.getD p undef = .pointer (some ⟨B, 0, none⟩)) (hg : w.heap[B]? = some (.cells #[a, b, c, d, e, f, g] 26)) :
  (results fn tmps).run Tryz.prog w = .ok (.agg #[a, b, c, d, e, f, g]) w :=
 results_cell_row h tmps w B _ _ _ _ hp hg Tryz.underlying26 rfl qC
theorem zBF (w : World) (v : Value) (s : St) : ∃ W1, ((w.alloc (.cells #[v, .int .i64 s.anc.line, .int .i64 s.anc.col, .int .i64 s.foc.line, .int .i64 s.foc.col, .int .i64 s.on, .int .i64 s.off] 26)).alloc (.cells #[.int .i64 0, .int .i64 0] 24)).alloc (.cells #[.int .i64 0, .int .i64 0] 24) = W1 ∧ Below w.heap.size w W1 ∧ w.heap.size + 3 = W1.heap.size ∧
  W1.heap[w.heap.size]? = some (.cells #[v, .int .i64 s.anc.line, .int .i64 s.anc.col, .int .i64 s.foc.line, .int .i64 s.foc.col, .int .i64 s.on, .int .i64 s.off] 26) ∧ W1.heap[w.heap.size + 1]? = some (.cells #[.int .i64 0, .int .i64 0] 24) ∧ W1.heap[w.heap.size + 2]? = some (.cells #[.int .i64 0, .int .i64 0] 24) :=
 ⟨_, rfl, (((Below.refl _ _).alloc (Nat.le_refl _) _).alloc qT _).alloc jD _, by simp, jI _ _ (jI _ _ (jF _ _ rfl)), jI _ _ (jF _ _ qT), jF _ _ qT⟩
theorem yF (w : World) (v : Value) (s : St) : ∃ W1, (w.alloc (.cells #[v, .int .i64 s.anc.line, .int .i64 s.anc.col, .int .i64 s.foc.line, .int .i64 s.foc.col, .int .i64 s.on, .int .i64 s.off] 26)).alloc (.cells #[.slice none 0 0, .int .i64 0, .int .i64 0, .int .i64 0, .int .i64 0, .int .i64 0, .int .i64 0] 26) = W1 ∧ Below w.heap.size w W1 ∧ w.heap.size + 2 = W1.heap.size ∧
  W1.heap[w.heap.size]? = some (.cells #[v, .int .i64 s.anc.line, .int .i64 s.anc.col, .int .i64 s.foc.line, .int .i64 s.foc.col, .int .i64 s.on, .int .i64 s.off] 26) ∧ W1.heap[w.heap.size + 1]? = some (.cells #[.slice none 0 0, .int .i64 0, .int .i64 0, .int .i64 0, .int .i64 0, .int .i64 0, .int .i64 0] 26) :=
 ⟨_, rfl, ((Below.refl _ _).alloc (Nat.le_refl _) _).alloc qT _, by simp, jI _ _ (jF _ _ rfl), jF _ _ qT⟩
end Go.Proofs.YtjgeadoncanheaaGreatDoor
namespace Go.Proofs.YtjgeadoncanheaaGreatDoor
open Go.ChangeShapes Go.WideShapes Go.ChangeAt Go.RowKit
open Go.Proofs.Qw Go.Deep
open _root_.Go.Proofs.Tryz renaming prog → zV
section
variable {H : Type} {enc : TypeId × Value → H} {w : World} {base : Nat} {held : Bool}
def InI (x : Int) : Prop := -9223372036854775808 ≤ x ∧ x ≤ 9223372036854775807
set_option maxRecDepth 100000 in
theorem zGK {n : Nat} {sp : Nat → Bool} {cs : List Value} {y : DataW H × List MemPlace} (h : DataW.trod enc zV w base sp held n 24 cs = some y) : ∃ x : Ps, cs = [.int .i64 x.line, .int .i64 x.col] := by
 obtain ⟨xs, m, _, _, hl, hxs, hf⟩ := DataW.trod_struct Tryz.underlying24 h;have h0 := hf 0 _ rfl;have h1 := hf 1 _ rfl;rw [show Tryz.prog.cellsOf 24 = 2 by kernel_rfl] at hl
 match cs, hl with
 | [a, b], _ =>
  match xs, hxs with
  | [x0, x1], _ =>
   obtain ⟨q, e0, _, _⟩ := DataW.trod_int Tryz.underlying3 h0;obtain ⟨r, e1, _, _⟩ := DataW.trod_int Tryz.underlying3 h1;have e0 : [a] = [Value.int .i64 q] := e0;have e1 : [b] = [Value.int .i64 r] := e1;cases e0;cases e1;exact ⟨⟨q, r⟩, rfl⟩
set_option maxRecDepth 100000 in
theorem zKO {n : Nat} {cs : List Value} {y : DataW H × List MemPlace} (h : DataW.trod enc zV w base (fun _ => true) held n 22 cs = some y) (hw : ∀ n ∈ y.1.weights zV 22, n ≤ reachBytes) :
  ∃ (v : Value) (x : Doc), cs = [v] ∧ jC w (fun _ => True) v x ∧ Sane x := by
 obtain ⟨v', xs, e, hs, hx⟩ := zDQ (t0 := 47) (k := 4) (R := uL false) (LinD zV 47) Tryz.underlying22 qC jA h (fun n cs y h => zLH h);refine ⟨v', xs, e, hs, fun l hl => ?_⟩;obtain ⟨i, hi⟩ := List.getElem?_of_mem hl;rcases hx with ⟨_, rfl⟩ | ⟨el, spr, hd, _, hel⟩
 ·cases hl
 ·obtain ⟨dd, g1, g2⟩ := hel i l hi
  rw [hd] at hw
  exact g2 fun n hn => hw n (by
   rw [DataW.weights, Tryz.underlying22];exact List.mem_cons_of_mem _ (List.mem_append_left _ (zDa hn (List.mem_of_getElem? g1))))
set_option maxRecDepth 100000 in
theorem zJX {v : Value} {d : DataW H} {ps : List MemPlace} (hv : ∃ cs, v = .agg cs ∧ cs.size = Tryz.prog.cellsOf 26) (h : DataW.Trod enc zV w base (fun _ => true) held 26 v d ps) (hw : ∀ n ∈ d.weights zV 26, n ≤ reachBytes) :
  ∃ (u : Value) (s : St), v = stV u s ∧ jC w (fun _ => True) u s.lines ∧ Sane s.lines ∧ InI s.on ∧ InI s.off := by
 obtain ⟨cs, rfl, hsz⟩ := hv;obtain ⟨fuel, hf⟩ := h;obtain ⟨xs, m, _, hd, hl, hxs, hff⟩ := DataW.trod_struct Tryz.underlying26 hf;have h0 := hff 0 _ rfl;have h1 := hff 1 _ rfl;have h2 := hff 2 _ rfl;have h3 := hff 3 _ rfl;have h4 := hff 4 _ rfl;rw [show Tryz.prog.cellsOf 26 = 7 by kernel_rfl] at hsz;obtain ⟨l⟩ := cs
 match l, hsz with
 | [a, b, c, p, e, f, g], _ =>
  match xs, hxs with
  | [x0, x1, x2, x3, x4], _ =>
   have hd : d = .agg [x0.1, x1.1, x2.1, x3.1, x4.1] := (Prod.ext_iff.1 hd).1
   obtain ⟨u, ls, e0, hls, hsn⟩ := zKO h0 (fun n hn => hw n (by
    rw [hd];simp only [DataW.weights, Tryz.underlying26];simp [DataW.weightsEach, hn]))
   obtain ⟨pa, e1⟩ := zGK h1;obtain ⟨pf, e2⟩ := zGK h2;obtain ⟨q, e3, _, wq⟩ := DataW.trod_int Tryz.underlying3 h3;obtain ⟨r, e4, _, wr⟩ := DataW.trod_int Tryz.underlying3 h4;have e0 : [a] = [u] := e0;have e1 : [b, c] = [Value.int .i64 pa.line, Value.int .i64 pa.col] := e1;have e2 : [p, e] = [Value.int .i64 pf.line, Value.int .i64 pf.col] := e2;have e3 : [f] = [Value.int .i64 q] := e3;have e4 : [g] = [Value.int .i64 r] := e4;cases e0;cases e1;cases e2;cases e3;cases e4;exact ⟨_, ⟨ls, pa, pf, q, r⟩, rfl, hls, hsn, bounds_i64 wq, bounds_i64 wr⟩
end
end Go.Proofs.YtjgeadoncanheaaGreatDoor
namespace Go.Proofs.Qw
open Go.RowKit Go.Proofs.YtjgeadoncanheaaGreatDoor
open _root_.List renaming getElem?_eq_some_iff → zK
def kO (l : List Cel) (k : Nat) : Int × List UInt8 :=
 (if 0 < k then (l.getD (k - 1) default).bits else if k < l.length then (l.getD k default).bits else 0,
  if 0 < k ∧ k < l.length ∧ (l.getD (k - 1) default).href = (l.getD k default).href then (l.getD (k - 1) default).href else [])
def zAx (l : List Cel) (k : Nat) : List UInt8 := if 0 < k ∧ (l.getD (k - 1) default).href ≠ [] then (l.getD (k - 1) default).href else if k < l.length then (l.getD k default).href else []
def xP (l : List Cel) (h : List UInt8) : Nat → Nat
 | 0 => 0
 | k + 1 => if (l.getD k default).href = h then xP l h k else k + 1
def yD (l : List Cel) (h : List UInt8) (k : Nat) : Nat := k + ((l.drop k).takeWhile fun c => decide (c.href = h)).length
def kQ (l : List Cel) (k : Nat) : Nat × Nat := if zAx l k = [] then (k, k) else (xP l (zAx l k) k, yD l (zAx l k) k)
theorem zCp {l : List Cel} {h : List UInt8} {k : Nat} {c : Cel} (hc : l[k]? = some c) (e : c.href = h) : yD l h k = yD l h (k + 1) := by
 obtain ⟨hk, rfl⟩ := zK.1 hc;unfold yD;rw [List.drop_eq_getElem_cons hk, List.takeWhile_cons_of_pos (by simpa using e), List.length_cons]
 omega
theorem zCh {l : List Cel} {h : List UInt8} {k : Nat} {c : Cel} (hc : l[k]? = some c) (e : c.href ≠ h) : yD l h k = k := by
 obtain ⟨hk, rfl⟩ := zK.1 hc;unfold yD;rw [List.drop_eq_getElem_cons hk, List.takeWhile_cons_of_neg (by simpa using e)]
 rfl
theorem zCi {l : List Cel} {h : List UInt8} {k : Nat} (hk : l.length ≤ k) : yD l h k = k := by
 unfold yD;rw [List.drop_eq_nil_of_le hk]
 rfl
def vC (l : List Cel) : Nat → Option Cel
 | 0 => none
 | k + 1 => l[k]?
theorem zKw (l : List Cel) (k : Nat) (hk : k ≤ l.length) : kO l k = (match vC l k, l[k]? with | some a, _ => a.bits | none, some b => b.bits | none, none => 0, match vC l k, l[k]? with | some a, some b => if a.href = b.href then a.href else [] | _, _ => []) := by
 unfold kO;cases k with
 | zero =>
  by_cases h : 0 < l.length
  ·obtain ⟨x, hx, _⟩ := jJ l 0 h
   simp [vC, hx, h, List.getD]
  ·have : l[0]? = none := List.getElem?_eq_none qE
   simp [vC, this, h]
 | succ j =>
  obtain ⟨a, ha, _⟩ := jJ l j qE
  by_cases h : j + 1 < l.length
  ·obtain ⟨b, hb, _⟩ := jJ l (j + 1) h
   simp [vC, ha, hb, h, List.getD]
  ·have : l[j + 1]? = none := List.getElem?_eq_none qE
   simp [vC, ha, this, h, List.getD]
theorem zLU (l : List Cel) (k : Nat) (hk : k ≤ l.length) : zAx l k = match vC l k, l[k]? with | some a, some b => if a.href = [] then b.href else a.href | some a, none => a.href | none, some b => b.href | none, none => [] := by
 unfold zAx;cases k with
 | zero =>
  by_cases h : 0 < l.length
  ·obtain ⟨x, hx, _⟩ := jJ l 0 h
   simp [vC, hx, h, List.getD]
  ·have : l[0]? = none := List.getElem?_eq_none qE
   simp [vC, this, h]
 | succ j =>
  obtain ⟨a, ha, _⟩ := jJ l j qE
  by_cases h : j + 1 < l.length
  ·obtain ⟨b, hb, _⟩ := jJ l (j + 1) h
   by_cases he : a.href = [] <;> simp [vC, ha, hb, h, he, List.getD]
  ·have : l[j + 1]? = none := List.getElem?_eq_none qE
   by_cases he : a.href = [] <;> simp [vC, ha, this, h, he, List.getD]
end Go.Proofs.Qw
namespace Go.Proofs.YtjgeadoncanheaaGreatDoor
open Go.RowKit
open Go.Proofs.Qw
open _root_.Go.Lib renaming hid → zA
open _root_.Nat renaming le_refl → zC
open _root_.Go.RowKit.Below renaming refl → zE, setCell → zF, alloc → zG, drew → zH
open _root_.Int renaming natCast_nonneg → zR
def zAA (w : World) (p : Option Addr) : Option Cel → Prop
 | none => p = none
 | some c => ∃ b o, p = some ⟨b, o, none⟩ ∧ b < w.heap.size ∧ w.cell? ⟨b, o, none⟩ = some (.int .i32 c.r) ∧ w.cell? ⟨b, o + 1, none⟩ = some (.int .i64 c.bits) ∧ w.cell? ⟨b, o + 2, none⟩ = some (.string ⟨c.href.toArray⟩)
set_option maxRecDepth 100000 in
theorem zFW (v : Value) (l : List Cel) (k : Nat) (w : World) (S : Nat → Prop) (h : jE false w S v l) (hk : k ≤ l.length) :
  Calls Tryz.prog 146 #[v, .int .i64 k] w fun e w' => ∃ pa pb, e = .returned (.tuple #[.int .i64 k, .pointer pa, .pointer pb]) ∧ w' = w ∧ zAA w pa (vC l k) ∧ zAA w pb l[k]? := by
 obtain ⟨a, c, rfl, hc, hm, hx⟩ := yO h;have e1 : max (k : Int) 0 = k := by omega
 have e2 : min (k : Int) (l.length : Int) = k := by omega
 unfold maxLen at hm;have HX := zA hx;clear hx h;cases k with
 | zero =>
  by_cases hn : 0 < l.length
  ·obtain ⟨x, hx0, _⟩ := jJ l 0 hn
   obtain ⟨b, o, rfl, hz, c0, c1, c2⟩ := HX.out 0 x hx0;have HB : Hid (zAA w (some ⟨b, o, none⟩) l[0]?) := zA (by rw [hx0]; exact ⟨b, o, rfl, hz, by simpa using c0, by simpa using c1, by simpa using c2⟩);clear hx0 c0 c1 c2 hz;go_enter Tryz.func146, Tryz.ntmps146;go_wp2_with fail;go_ret3;exact ⟨none, _, rfl, rfl, rfl, HB.out⟩
  ·have hn : l.length = 0 := by omega
   have HB : Hid (zAA w none l[0]?) := zA (by rw [List.getElem?_eq_none qE]; exact rfl);go_enter Tryz.func146, Tryz.ntmps146;go_wp2_with fail;go_ret3;exact ⟨none, none, rfl, rfl, rfl, HB.out⟩
 | succ j =>
  obtain ⟨x, hx0, _⟩ := jJ l j qE;obtain ⟨b, o, rfl, hz, c0, c1, c2⟩ := HX.out j x hx0;have HA : Hid (zAA w (some ⟨b, o + j * 3, none⟩) (vC l (j + 1))) := zA (by show zAA _ _ l[j]?; rw [hx0]; exact ⟨b, o + j * 3, rfl, hz, c0, c1, c2⟩);have e1' : max ((j : Int) + 1) 0 = (j : Int) + 1 := by omega
  have e2' : min ((j : Int) + 1) (l.length : Int) = (j : Int) + 1 := by omega
  have e4 : ((j : Int) + 1).toNat = j + 1 := by omega
  clear e1 e2;clear hx0 c0 c1 c2
  by_cases hn : j + 1 < l.length
  ·obtain ⟨y, hy0, _⟩ := jJ l (j + 1) hn
   obtain ⟨b', o', hbe, hz', c0, c1, c2⟩ := HX.out (j + 1) y hy0;cases hbe;have HB : Hid (zAA w (some ⟨b, o + (j + 1) * 3, none⟩) l[j + 1]?) := zA (by rw [hy0]; exact ⟨b, o + (j + 1) * 3, rfl, hz', c0, c1, c2⟩);clear hy0 c0 c1 c2 hz' hz;go_enter Tryz.func146, Tryz.ntmps146;go_wp2_with fail;go_ret3;exact ⟨_, _, rfl, rfl, HA.out, HB.out⟩
  ·have HB : Hid (zAA w none l[j + 1]?) := zA (by rw [List.getElem?_eq_none qE]; exact rfl)
   clear hz;go_enter Tryz.func146, Tryz.ntmps146;go_wp2_with fail;go_ret3;exact ⟨_, none, rfl, rfl, HA.out, HB.out⟩
set_option maxRecDepth 100000 in
theorem zDE (v : Value) (l : List Cel) (k : Nat) (w : World) (S : Nat → Prop) (h : jE false w S v l) (hk : k ≤ l.length) :
  Calls Tryz.prog 84 #[v, .int .i64 k] w fun e w' => e = .returned (.tuple #[.int .i64 (kO l k).1, .string ⟨(kO l k).2.toArray⟩]) ∧ Below w.heap.size w w' := by
 have HS := zA (zFW v l k w S h hk);have HR := zA (zKw l k hk);obtain ⟨r1, r2, hr⟩ : ∃ r1 r2, kO l k = (r1, r2) := ⟨_, _, rfl⟩;rw [hr] at HR ⊢;clear hr hk;obtain ⟨a, c, rfl⟩ := h.slice;clear h;have hw0 : Below w.heap.size w w := zE _ _
 generalize vC l k = X at *
 generalize l[k]? = Y at *
 cases X with
 | none =>
  cases Y with
  | none =>
   go_enter Tryz.func84, Tryz.ntmps84;go_wp2_with (go_at_call 146; refine HS.out.mono ?_; intro e w1 hs; obtain ⟨pa, pb, rfl, rfl, hpa, hpb⟩ := hs; obtain rfl : pa = none := hpa; obtain rfl : pb = none := hpb);go_region;go_wp2_with fail;go_ret2;cases HR.out;exact ⟨rfl, zAO⟩
  | some y =>
   go_enter Tryz.func84, Tryz.ntmps84;go_wp2_with (go_at_call 146; refine HS.out.mono ?_; intro e w1 hs; obtain ⟨pa, pb, rfl, rfl, hpa, hpb⟩ := hs; obtain rfl : pa = none := hpa; obtain ⟨b, o, rfl, hz, c0, c1, c2⟩ := hpb);go_region;go_wp2_with fail;go_ret2;cases HR.out;exact ⟨rfl, zAO⟩
 | some x =>
  cases Y with
  | none =>
   go_enter Tryz.func84, Tryz.ntmps84;go_wp2_with (go_at_call 146; refine HS.out.mono ?_; intro e w1 hs; obtain ⟨pa, pb, rfl, rfl, hpa, hpb⟩ := hs; obtain ⟨b, o, rfl, hz, c0, c1, c2⟩ := hpa; obtain rfl : pb = none := hpb);go_region;go_wp2_with fail;go_ret2;cases HR.out;exact ⟨rfl, zAO⟩
  | some y =>
   by_cases hxy : x.href = y.href
   ·have HQ : Hid ((r1, r2) = (x.bits, x.href)) := zA (HR.out.trans (by simp [hxy]))
    have hq : (x.href == y.href) = true := by simpa using hxy
    clear hxy HR;go_enter Tryz.func84, Tryz.ntmps84;go_wp2_with (go_at_call 146; refine HS.out.mono ?_; intro e w1 hs; obtain ⟨pa, pb, rfl, rfl, hpa, hpb⟩ := hs; obtain ⟨b, o, rfl, hz, c0, c1, c2⟩ := hpa; obtain ⟨b', o', rfl, hz', c0', c1', c2'⟩ := hpb);go_region;go_wp2_with fail;go_ret2;cases HQ.out;exact ⟨rfl, zAO⟩
   ·have HQ : Hid ((r1, r2) = (x.bits, [])) := zA (HR.out.trans (by simp [hxy]))
    have hq : (x.href == y.href) = false := by simpa using hxy
    clear hxy HR;go_enter Tryz.func84, Tryz.ntmps84;go_wp2_with (go_at_call 146; refine HS.out.mono ?_; intro e w1 hs; obtain ⟨pa, pb, rfl, rfl, hpa, hpb⟩ := hs; obtain ⟨b, o, rfl, hz, c0, c1, c2⟩ := hpa; obtain ⟨b', o', rfl, hz', c0', c1', c2'⟩ := hpb);go_region;go_wp2_with fail;go_ret2;cases HQ.out;exact ⟨rfl, zAO⟩
set_option maxRecDepth 100000 in
theorem zJI (v : Value) (l : List Cel) (k : Nat) (w : World) (S : Nat → Prop) (h : jE false w S v l) (hk : k ≤ l.length) (hl : l.length ≤ 1000000) :
  Calls Tryz.prog 157 #[v, .int .i64 k] w fun e w' => e = .returned (.tuple #[.int .i64 (kQ l k).1, .int .i64 (kQ l k).2]) ∧ Below w.heap.size w w' := by
 have HS := zA (zFW v l k w S h hk);have HE := zA (zLU l k hk);obtain ⟨H, hH⟩ : ∃ H, zAx l k = H := ⟨_, rfl⟩;have HR : Hid (kQ l k = if H = [] then (k, k) else (xP l H k, yD l H k)) := zA (by unfold kQ; rw [hH]);rw [hH] at HE;clear hH;obtain ⟨a, c, rfl, hc, hm, hx⟩ := yO h;unfold maxLen at hm;have HX := zA hx;clear hx h;have hw0 : Below w.heap.size w w := zE _ _;go_enter Tryz.func157, Tryz.ntmps157;go_upto_if 18 with (go_at_call 146; refine HS.out.mono ?_; intro e w1 hs; obtain ⟨pa, pb, rfl, rfl, hpa, hpb⟩ := hs; have HA := zA hpa; have HB := zA hpb; clear hpa hpb)
 clear HS
 generalize vC l k = X at *
 obtain ⟨Y, hY⟩ : ∃ Y, l[k]? = Y := ⟨_, rfl⟩;rw [hY] at HB HE;clear hY;obtain ⟨h0, hh0⟩ : ∃ h0 : List UInt8, (Y.map (fun y : Cel => y.href)).getD [] = h0 := ⟨_, rfl⟩;have hE : H = (X.map (fun x : Cel => if x.href = [] then h0 else x.href)).getD h0 := by rw [HE.out, ← hh0]; cases X <;> cases Y <;> simp
 clear HE;have HE := zA hE;clear hE;go_cut [9] from 17 (fun r wx => r = .string ⟨h0.toArray⟩ ∧ wx = w1)
 case first =>
  cases Y with
  | none =>
   obtain rfl : pb = none := HB.out;cases hh0;go_wp2_with fail;go_meet
   case rel => exact ⟨rfl, rfl⟩
  | some y =>
   obtain ⟨b, o, rfl, hz, c0, c1, c2⟩ := HB.out;cases hh0;go_wp2_with fail;go_meet
   case rel => exact ⟨rfl, rfl⟩
 case rest =>
 obtain ⟨rfl, rfl⟩ := hcut;clear hh0 HB;obtain ⟨B, hB⟩ : ∃ B, (X.map (fun x : Cel => !x.href.isEmpty)).getD false = B := ⟨_, rfl⟩;go_upto_region 5 with fail
 go_cut [31] from 25 to 31 (fun r wx => r = .bool B ∧ wx = wc)
 case first =>
  cases X with
  | none =>
   obtain rfl : pa = none := HA.out;cases hB;go_wp2_with fail;go_meet
   case rel => exact ⟨rfl, rfl⟩
  | some x =>
   obtain ⟨b, o, rfl, hz, c0, c1, c2⟩ := HA.out;have hB' : B = !x.href.isEmpty := hB.symm;clear hB;cases hq : x.href.isEmpty
   all_goals
    rw [hq] at hB';subst hB';go_wp2_with fail;go_meet
    case rel => exact ⟨rfl, rfl⟩
 case rest =>
 obtain ⟨rfl, rfl⟩ := hcut
 have hHB : (B = false ∧ H = h0) ∨ (B = true ∧ ∃ x, X = some x ∧ H = x.href) := by
  rw [← hB, HE.out];cases X with
  | none => exact .inl ⟨rfl, rfl⟩
  | some x =>
   cases hx : x.href with
   | nil => exact .inl ⟨by simp [hx], by simp [hx]⟩
   | cons y l => exact .inr ⟨by simp [hx], x, rfl, by simp [hx]⟩
 have HHB := zA hHB;clear hHB hB HE;go_upto_if 31 with fail
 go_cut [9] from 32 (fun r wx => r = .string ⟨H.toArray⟩ ∧ wx = wc)
 case first =>
  rcases HHB.out with ⟨rfl, rfl⟩ | ⟨rfl, x, rfl, rfl⟩
  ·go_wp2_with fail
   go_meet
   case rel => exact ⟨rfl, rfl⟩
  ·obtain ⟨b, o, rfl, hz, c0, c1, c2⟩ := HA.out
   go_wp2_with fail;go_meet
   case rel => exact ⟨rfl, rfl⟩
 case rest =>
 obtain ⟨rfl, rfl⟩ := hcut;clear HA HHB
 by_cases hH : H = []
 ·have HQ : Hid (kQ l k = (k, k)) := zA (HR.out.trans (if_pos hH))
  subst hH;go_wp2_with fail;go_ret2;rw [HQ.out];exact ⟨rfl, hw0⟩
 ·have HQ : Hid (kQ l k = (xP l H k, yD l H k)) := zA (HR.out.trans (if_neg hH))
  have hne : H.isEmpty = false := by simpa using hH
  clear HR hH;go_wp2_with fail;go_loopw [4] (fun i wr => ∃ j : Nat, j ≤ k ∧ i = .int .i64 j ∧ Hid (xP l H k = xP l H j) ∧ wc = wr) (fun i _ => (intOf i).toNat)
  case atStart => exact ⟨k, zC _, rfl, zA rfl, rfl⟩
  case round =>
   obtain ⟨j, hj, rfl, HJ, rfl⟩ := hrel
   have hdone : (j = 0 ∨ ∃ m, j = m + 1 ∧ ∃ x, l[m]? = some x ∧ x.href ≠ H) ∨ ∃ m, j = m + 1 ∧ ∃ x, l[m]? = some x ∧ x.href = H := by
    cases j with
    | zero => exact .inl (.inl rfl)
    | succ m =>
     obtain ⟨x, hx, _⟩ := jJ l m qE
     by_cases e : x.href = H
     ·exact .inr ⟨m, rfl, x, hx, e⟩
     ·exact .inl (.inr ⟨m, rfl, x, hx, e⟩)
   rcases hdone with (rfl | ⟨m, rfl, x, hx, hxe⟩) | ⟨m, rfl, x, hx, hxe⟩
   ·have HB' : Hid (xP l H k = 0) := zA (HJ.out.trans rfl)
    go_wp2_with fail;go_loopw [5] (fun i wr => ∃ n : Nat, k ≤ n ∧ n ≤ l.length ∧ i = .int .i64 n ∧ Hid (yD l H k = yD l H n) ∧ wc = wr) (fun i _ => l.length - (intOf i).toNat)
    case atStart => exact ⟨k, zC _, hk, rfl, zA rfl, rfl⟩
    case round =>
     obtain ⟨n, hn, hnl, rfl, HN, rfl⟩ := hrel
     by_cases hlt : n < l.length
     ·obtain ⟨y, hy, _⟩ := jJ l n hlt
      obtain ⟨b', o', hbe, hz', d0, d1, d2⟩ := HX.out n y hy;subst hbe;have n0 : (0 : Int) ≤ (n : Int) := zR _
      by_cases hye : y.href = H
      ·have HF := zA (HN.out.trans (zCp hy hye))
       have hq : (y.href == H) = true := by simpa using hye
       clear hy hye;go_wp2_with fail;go_roundw
       case rel => exact ⟨n + 1, by omega, by omega, by go_num, HF, by simp⟩
       case measure => simp [intOf]; omega
      ·have HF := zA (HN.out.trans (zCh hy hye))
       have hq : (y.href == H) = false := by simpa using hye
       clear hy hye;go_wp2_with fail;go_ret2;rw [HQ.out, HB'.out, HF.out];exact ⟨rfl, hw0⟩
     ·obtain rfl : n = l.length := by omega
      have HF := zA (HN.out.trans (zCi (zC _)));go_wp2_with fail;go_ret2;rw [HQ.out, HB'.out, HF.out];exact ⟨rfl, hw0⟩
   ·have HB' : Hid (xP l H k = m + 1) := zA (HJ.out.trans (by unfold xP; rw [if_neg zCT]))
    obtain ⟨b, o, rfl, hz, c0, c1, c2⟩ := HX.out m x hx;have hq : (x.href == H) = false := by simpa using hxe
    have e3 : ((m + 1 : Nat) : Int) - 1 = m := by omega
    clear hx hxe;go_wp2_with fail;go_loopw [5] (fun i wr => ∃ n : Nat, k ≤ n ∧ n ≤ l.length ∧ i = .int .i64 n ∧ Hid (yD l H k = yD l H n) ∧ wc = wr) (fun i _ => l.length - (intOf i).toNat)
    case atStart => exact ⟨k, zC _, hk, rfl, zA rfl, rfl⟩
    case round =>
     obtain ⟨n, hn, hnl, rfl, HN, rfl⟩ := hrel
     by_cases hlt : n < l.length
     ·obtain ⟨y, hy, _⟩ := jJ l n hlt
      obtain ⟨b', o', hbe, hz', d0, d1, d2⟩ := HX.out n y hy;cases hbe;have n0 : (0 : Int) ≤ (n : Int) := zR _
      by_cases hye : y.href = H
      ·have HF := zA (HN.out.trans (zCp hy hye))
       have hq : (y.href == H) = true := by simpa using hye
       clear hy hye;go_wp2_with fail;go_roundw
       case rel => exact ⟨n + 1, by omega, by omega, by go_num, HF, by simp⟩
       case measure => simp [intOf]; omega
      ·have HF := zA (HN.out.trans (zCh hy hye))
       have hq : (y.href == H) = false := by simpa using hye
       clear hy hye;go_wp2_with fail;go_ret2;rw [HQ.out, HB'.out, HF.out];exact ⟨rfl, hw0⟩
     ·obtain rfl : n = l.length := by omega
      have HF := zA (HN.out.trans (zCi (zC _)));go_wp2_with fail;go_ret2;rw [HQ.out, HB'.out, HF.out];exact ⟨rfl, hw0⟩
   ·have HB' := zA (HJ.out.trans (show xP l H (m + 1) = xP l H m by rw [xP, if_pos zCT]))
    obtain ⟨b, o, rfl, hz, c0, c1, c2⟩ := HX.out m x hx;have hq : (x.href == H) = true := by simpa using hxe
    have e3 : ((m + 1 : Nat) : Int) - 1 = m := by omega
    clear hx hxe;go_wp2_with fail;go_roundw
    case rel => exact ⟨m, by omega, by go_num, HB', by simp⟩
    case measure => simp [intOf]
end Go.Proofs.YtjgeadoncanheaaGreatDoor
namespace Go.Proofs.Qw
open Go.RowKit Go.Proofs.YtjgeadoncanheaaGreatDoor
def selS (s : St) : List Cel := cellsD s.lines (qV s).1 (qV s).2
def xL (s : St) : List Cel := (s.lines.getD s.anc.line.toNat default).cells
def andB (l : List Cel) : Int := l.foldl (fun b c => bits .and .i64 b c.bits) 15
def zEc (l : List Cel) : Int := if l = [] then 0 else andB l
def xX (s : St) : Int := if mayS s = true then (if s.anc = s.foc then bits .or .i64 (bits .andNot .i64 (kO (xL s) s.anc.col.toNat).1 s.off) s.on else zEc (selS s)) else 0
def hasS (s : St) (b : Int) : Bool := !(b == 0) && (bits .and .i64 (xX s) b == b)
def allL (l : List Cel) (b : Int) : Bool := decide (0 < l.length) && l.all fun c => bits .and .i64 c.bits b == b
def vJ (l : List Cel) (b : Int) : Bool := l.any fun c => bits .and .i64 c.bits b != 0
def xD (s : St) (b : Int) : Bool := mayS s && (!decide (s.anc = s.foc) && (vJ (selS s) b && !allL (selS s) b))
def jZ (s : St) : Ps × Ps := if s.anc = s.foc then (⟨s.anc.line, ((kQ (xL s) s.anc.col.toNat).1 : Int)⟩, ⟨s.anc.line, ((kQ (xL s) s.anc.col.toNat).2 : Int)⟩) else qV s
def zCK : List Cel → List UInt8
 | [] => []
 | c :: l => if l.all (fun x => decide (x.href = c.href)) = true then c.href else []
def vT (s : St) : List UInt8 := if mayS s = true then zCK (cellsD s.lines (jZ s).1 (jZ s).2) else []
def zAG (s : St) (x : Doc × Int) : St × Int := if x.2 = 0 then (⟨x.1, s.anc, s.foc, 0, 0⟩, 0) else (noS, x.2)
def yY (s : St) (x : Doc × Int) : St × Int := if mayS s = true then zAG s x else (noS, 1)
def four (b : Int) : Bool := decide (b = 1) || (decide (b = 2) || (decide (b = 4) || decide (b = 8)))
def togC (s : St) (b : Int) : St :=
 { s with on := bits .or .i64 (bits .andNot .i64 s.on b) (bits .andNot .i64 b (xX s)), off := bits .or .i64 (bits .andNot .i64 s.off b) (bits .andNot .i64 b (bits .andNot .i64 b (xX s))) }
def togD (s : St) (b : Int) : Doc × Int := if allL (selS s) b = true then setD 0 b s.lines (qV s).1 (qV s).2 else setD b 0 s.lines (qV s).1 (qV s).2
def uH (s : St) (b : Int) : St × Int := if mayS s = true ∧ four b = true then (if s.anc = s.foc then (togC s b, 0) else zAG s (togD s b)) else (noS, 1)
def zCI (s : St) (h : List UInt8) : Doc × Int := if kN h = true then uB h s.lines (qV s).1 (qV s).2 else ([], 1)
def zAq (s : St) : Doc × Int := if (cellsD s.lines (jZ s).1 (jZ s).2).any (fun c => decide (c.href ≠ [])) = true then uB [] s.lines (jZ s).1 (jZ s).2 else ([], 7)
def zCD (s : St) : Doc × Int := if vJ (selS s) 15 = true then setD 0 15 s.lines (qV s).1 (qV s).2 else ([], 7)
theorem zDn {s : St} (h : s.anc = s.foc) : qV s = (s.anc, s.anc) := by
 have : cmpP s.foc s.foc = 0 := by simp [cmpP, cmpI]
 unfold qV;rw [h, this, if_neg qE]
theorem vY {s : St} (h : mayS s = true) : mayD s.lines = true ∧ isD s.lines s.anc = true ∧ isD s.lines s.foc = true ∧ bits .andNot .i64 s.on 15 = 0 ∧ bits .andNot .i64 s.off 15 = 0 ∧ bits .and .i64 s.on s.off = 0 := by
 simpa [mayS, and_assoc] using h
theorem zGa {s : St} (h : mayS s = true) : kK s.lines (qV s).1 (qV s).2 = true := by
 obtain ⟨h1, h2, h3, _⟩ := vY h;unfold qV
 split
 ·rename_i hc
  rw [zDX] at hc;simp [kK, h1, h2, h3]
  omega
 ·simp [kK, h1, h2, h3]
  omega
end Go.Proofs.Qw
namespace Go.Proofs.YtjgeadoncanheaaGreatDoor
open Go.RowKit
open Go.Proofs.Qw
open _root_.Go.Lib renaming hid → zA
open _root_.Nat renaming le_refl → zC, le_trans → zD
open _root_.Go.RowKit.Below renaming refl → zE
open _root_.List renaming getElem?_eq_some_iff → zK, length_append → zS
open _root_.Int renaming natCast_nonneg → zR
open _root_.Go.Proofs.Tryz renaming prog → zV
open _root_.Go.Proofs.YtjgeadoncanheaaGreatDoor renaming jH → zW, jG → zX
open _root_.Go.Proofs.Qw renaming jY → zZ, jX → qB
open _root_.Go.Proofs.Qw.SliceR renaming stable → qG
open _root_.Go.Proofs.Qw.Keeps renaming refl → qM
theorem zJd (v : Value) (d : Doc) (a b : Ps) (w : World) (S : Nat → Prop) (h : jC w S v d) (hs : Small d) :
  Calls zV 160 #[v, posV a, posV b] w fun e w' => e = .returned (.bool (kK d a b)) ∧ Below w.heap.size w w' := by
 obtain ⟨W1, hW1, hB, hz, hA1, hA2⟩ := yP w (.int .i64 a.line) (.int .i64 a.col) (.int .i64 b.line) (.int .i64 b.col);have hs1 := hB.size;have hv := h.below (zZ _) hB;have HC1 := zA (zFx v d W1 S hv hs);have HC2 : Hid (∀ p W, Below W1.heap.size W1 W → Calls zV 57 #[v, posV p] W fun e w' => e = .returned (.bool (isD d p)) ∧ Below W.heap.size W w') := zA fun p W hW => zFY v d p W S (hv.below (zZ _) hW);have HC3 : Hid (∀ W, Calls zV 86 #[posV a, posV b] W fun e w' => e = .returned (.int .i64 (cmpP a b)) ∧ Below W.heap.size W w') := zA fun W => zFy a b W;have HB : Hid (∀ W, Below W1.heap.size W1 W → W.heap[w.heap.size]? = some (.cells #[.int .i64 a.line, .int .i64 a.col] 24) ∧ W.heap[w.heap.size + 1]? = some (.cells #[.int .i64 b.line, .int .i64 b.col] 24)) := zA fun W hW => ⟨zX hW hA1, zX hW hA2⟩;have HE : Hid (kK d a b = (mayD d && (isD d a && (isD d b && decide (cmpP a b ≤ 0))))) := zA (by unfold kK; rw [Bool.and_assoc, Bool.and_assoc]);have HP : Hid (∀ p : Ps, posV p = .agg #[.int .i64 p.line, .int .i64 p.col]) := zA fun _ => rfl;have H1 := zA hB;obtain ⟨va, vc, rfl⟩ := h.slice;clear h hs hz hA1 hA2 hB hv;rw [HP.out a, HP.out b]
 generalize kK d a b = r at *
 generalize mayD d = x at *
 generalize cmpP a b = u at *
 go_enter Tryz.func160, Tryz.ntmps160
 go_wp2_with (first
  | (go_at_call 56; refine HC1.out.mono ?_; rintro e w2 ⟨rfl, hb2⟩; obtain ⟨p3, f3⟩ := blk (HB.out _ hb2).1; obtain ⟨p4, f4⟩ := blk (HB.out _ hb2).2; cases x)
  | (go_at_call 57; refine (HC2.out _ _ qW).mono ?_; rintro e w3 ⟨rfl, hb3⟩; have hx3 : Below W1.heap.size W1 w3 := zW qW hb3; clear hb3; obtain ⟨p5, f5⟩ := blk (HB.out _ hx3).1; obtain ⟨p6, f6⟩ := blk (HB.out _ hx3).2)
  | (go_at_call 86; refine (HC3.out _).mono ?_; rintro e w5 ⟨rfl, hb5⟩; have hx5 : Below W1.heap.size W1 w5 := zW qW hb5; clear hb5))
 all_goals
  go_ret;refine ⟨?_, H1.out.trans (Below.mono qW hs1)⟩;rw [HE.out];refine congrArg Ending.returned (congrArg Value.bool ?_);clear HE HC1 HC2 HC3 HB HP H1;simp (config := { failIfUnchanged := false }) [*]
set_option maxRecDepth 100000 in
theorem zJi (v : Value) (d : Doc) (i p j q k : Nat) (w : World) (S : Nat → Prop) (h : jC w S v d) (hk : k < d.length) :
  Calls zV 161 #[v, posV ⟨i, p⟩, posV ⟨j, q⟩, .int .i64 k] w fun e w' => e = .returned (.tuple #[.int .i64 (rowB d i p j q k).2.1, .int .i64 (rowB d i p j q k).2.2]) ∧ Below w.heap.size w w' := by
 obtain ⟨l, hl, _⟩ := jJ d k hk;obtain ⟨W1, hW1, hB, hz, hA1, hA2⟩ := yP w (.int .i64 i) (.int .i64 p) (.int .i64 j) (.int .i64 q);have HB : Hid (∀ W, Below W1.heap.size W1 W → W.heap[w.heap.size]? = some (.cells #[.int .i64 i, .int .i64 p] 24) ∧ W.heap[w.heap.size + 1]? = some (.cells #[.int .i64 j, .int .i64 q] 24)) := zA fun W hW => ⟨zX hW hA1, zX hW hA2⟩;have HR := zA (zCs d (i := i) (p := p) (j := j) (q := q) hl);have HP : Hid (∀ p : Ps, posV p = .agg #[.int .i64 p.line, .int .i64 p.col]) := zA fun _ => rfl;have H1 := zA hB;have hs1 := hB.size;obtain ⟨va, vc, rfl, hvc, hvm, hx⟩ := kJ (h.below (zZ _) hB);obtain ⟨b, o, la, lc, ca, cc, rfl, hA⟩ := hx k l hl;obtain ⟨_, _, _, _, c3, _, _⟩ := hA;unfold maxLen at hvm;have i0 : (0 : Int) ≤ (k : Int) := zR _;have i1 : (k : Int) < (d.length : Int) := by omega
 obtain ⟨p1, f1⟩ := blk hA1;obtain ⟨p2, f2⟩ := blk hA2;clear hx h hl hA1 hA2 hB;rw [HP.out, HP.out];rcases (show k = i ∧ k = j ∨ k = i ∧ ¬ k = j ∨ ¬ k = i ∧ k = j ∨ ¬ k = i ∧ ¬ k = j by omega) with ⟨e1, e2⟩ | ⟨e1, e2⟩ | ⟨e1, e2⟩ | ⟨e1, e2⟩
 ·have HR2 : Hid (rowB d i p j q k = (k, _, _)) := zA (HR.out.trans (by rw [if_pos e1, if_pos e2]))
  have hq1 : ((k : Int) == (i : Int)) = true := by simp; omega
  have hq2 : ((k : Int) == (j : Int)) = true := by simp; omega
  clear e1 e2 HR;go_enter Tryz.func161, Tryz.ntmps161;go_wp2_with fail;go_quiet (fail);have hk1 : Below W1.heap.size W1 (W1.drewN nq) := jK (zE _ _);obtain ⟨W2, hW2⟩ : ∃ W2, W1.drewN nq = W2 := ⟨_, rfl⟩;rw [hW2] at hk1 ⊢;clear p1 f1 p2 f2;obtain ⟨p1, f1⟩ := blk (HB.out _ hk1).1;obtain ⟨p2, f2⟩ := blk (HB.out _ hk1).2;go_wp2_with fail;go_ret2;rw [HR2.out];exact ⟨rfl, H1.out.trans (hk1.mono hs1)⟩
 ·have HR2 : Hid (rowB d i p j q k = (k, _, _)) := zA (HR.out.trans (by rw [if_pos e1, if_neg e2]))
  have hq1 : ((k : Int) == (i : Int)) = true := by simp; omega
  have hq2 : ((k : Int) == (j : Int)) = false := by simp; omega
  clear e1 e2 HR;go_enter Tryz.func161, Tryz.ntmps161;go_wp2_with fail;go_quiet (fail);have hk1 : Below W1.heap.size W1 (W1.drewN nq) := jK (zE _ _);obtain ⟨W2, hW2⟩ : ∃ W2, W1.drewN nq = W2 := ⟨_, rfl⟩;rw [hW2] at hk1 ⊢;clear p1 f1 p2 f2;obtain ⟨p1, f1⟩ := blk (HB.out _ hk1).1;obtain ⟨p2, f2⟩ := blk (HB.out _ hk1).2;go_wp2_with fail;go_ret2;rw [HR2.out];exact ⟨rfl, H1.out.trans (hk1.mono hs1)⟩
 ·have HR2 : Hid (rowB d i p j q k = (k, _, _)) := zA (HR.out.trans (by rw [if_neg e1, if_pos e2]))
  have hq1 : ((k : Int) == (i : Int)) = false := by simp; omega
  have hq2 : ((k : Int) == (j : Int)) = true := by simp; omega
  clear e1 e2 HR;go_enter Tryz.func161, Tryz.ntmps161;go_wp2_with fail;go_quiet (fail);have hk1 : Below W1.heap.size W1 (W1.drewN nq) := jK (zE _ _);obtain ⟨W2, hW2⟩ : ∃ W2, W1.drewN nq = W2 := ⟨_, rfl⟩;rw [hW2] at hk1 ⊢;clear p1 f1 p2 f2;obtain ⟨p1, f1⟩ := blk (HB.out _ hk1).1;obtain ⟨p2, f2⟩ := blk (HB.out _ hk1).2;go_wp2_with fail;go_ret2;rw [HR2.out];exact ⟨rfl, H1.out.trans (hk1.mono hs1)⟩
 ·have HR2 : Hid (rowB d i p j q k = (k, _, _)) := zA (HR.out.trans (by rw [if_neg e1, if_neg e2]))
  have hq1 : ((k : Int) == (i : Int)) = false := by simp; omega
  have hq2 : ((k : Int) == (j : Int)) = false := by simp; omega
  clear e1 e2 HR;go_enter Tryz.func161, Tryz.ntmps161;go_wp2_with fail;go_quiet (fail);have hk1 : Below W1.heap.size W1 (W1.drewN nq) := jK (zE _ _);obtain ⟨W2, hW2⟩ : ∃ W2, W1.drewN nq = W2 := ⟨_, rfl⟩;rw [hW2] at hk1 ⊢;clear p1 f1 p2 f2;obtain ⟨p1, f1⟩ := blk (HB.out _ hk1).1;obtain ⟨p2, f2⟩ := blk (HB.out _ hk1).2;go_wp2_with fail;go_ret2;rw [HR2.out];exact ⟨rfl, H1.out.trans (hk1.mono hs1)⟩
theorem zAH {P : Program} {st t : TypeId} {k : Nat} (hT : RowT P st t k) (w : World) (l : List Value) (hl : l.length = k) (h1 : ∀ u ∈ l, u.oneCell' = true) (c : Nat) {B : Nat} (hB : B = w.heap.size) : Src P k st (.slice (some ⟨B, 0, none⟩) 1 c) 1 l (w.alloc (.cells l.toArray t)) := hB ▸ zGH hT w l hl h1 c
def kY (d : Doc) (x : Nat × Nat × Nat) : Lin := { (d.getD x.1 default) with cells := uR d x }
def kX (d : Doc) (a b : Ps) : Doc × Int := if kK d a b = true then ((kE d a.line.toNat a.col.toNat b.line.toNat b.col.toNat (b.line.toNat + 1)).map (kY d), 0) else ([], 1)
theorem zFZ {d : Doc} {x : Nat × Nat × Nat} {l : Lin} (h : d[x.1]? = some l) : kY d x = { l with cells := (l.cells.drop x.2.1).take (x.2.2 - x.2.1) } := by
 unfold kY;rw [zDJ h];simp [List.getD, h]
theorem zEX (d : Doc) : ∀ xs : List (Nat × Nat × Nat), jQ (xs.map (kY d)) = (kW d xs).length
 | [] => rfl
 | x :: xs => by
  have ih := zEX d xs;simp only [jQ, List.map_cons, List.sum_cons, kW, List.flatMap_cons, zS] at ih ⊢;rw [ih]
  rfl
theorem zFI (d : Doc) (xs : List (Nat × Nat × Nat)) : (xs.map (kY d)).flatMap (·.cells) = kW d xs := by
 unfold kW;rw [List.flatMap_map]
 rfl
set_option maxRecDepth 100000 in
theorem zJf (v : Value) (d : Doc) (a b : Ps) (w : World) (S : Nat → Prop) (h : jC w S v d) (hs : Small d) (hf : Fits d) :
  Calls zV 106 #[v, posV a, posV b] w (DocSaid (kX d a b) w) := by
 obtain ⟨W1, hW1, hB, hz, hA1, hA2⟩ := yP w (.int .i64 a.line) (.int .i64 a.col) (.int .i64 b.line) (.int .i64 b.col);have hv := h.below (zZ _) hB;have HC1 := zA (zJd v d a b W1 S hv hs);have HB : Hid (∀ W, Below W1.heap.size W1 W → W.heap[w.heap.size]? = some (.cells #[.int .i64 a.line, .int .i64 a.col] 24) ∧ W.heap[w.heap.size + 1]? = some (.cells #[.int .i64 b.line, .int .i64 b.col] 24)) := zA fun W hW => ⟨zX hW hA1, zX hW hA2⟩;have HP : Hid (∀ p : Ps, posV p = .agg #[.int .i64 p.line, .int .i64 p.col]) := zA fun _ => rfl;have H1 := zA hB;have HL := zA hv;have HF := zA hf;have hlen := hf.1;have hs1 := hB.size;obtain ⟨p1, f1⟩ := blk hA1;obtain ⟨p2, f2⟩ := blk hA2;obtain ⟨va, vc, rfl⟩ := h.slice;clear h hs hf hA1 hA2 hB hv;cases hsp : kK d a b
 ·have HR : Hid (kX d a b = ([], 1)) := zA (by unfold kX; rw [hsp]; rfl)
  rw [hsp] at HC1;clear hsp;rw [HP.out a, HP.out b] at HC1 ⊢;go_enter Tryz.func106, Tryz.ntmps106;go_wp2_with (go_at_call 160; refine HC1.out.mono ?_; rintro e w2 ⟨rfl, hb2⟩);go_ret2;unfold DocSaid;rw [HR.out];exact ⟨_, rfl, SliceR.nil _ _ _ _ _ _, H1.out.trans (hb2.mono hs1)⟩
 obtain ⟨_, i, j, p, q, l, m, rfl, rfl, hl, hm, hp, hq, hij, hpq⟩ := uI hsp;have hjl := (zK.1 hm).1;have HR : Hid (kX d ⟨i, p⟩ ⟨j, q⟩ = ((kE d i p j q (j + 1)).map (kY d), 0)) := zA (by unfold kX; rw [hsp, if_pos rfl]; rfl);have HOK : Hid (∀ k, i ≤ k → k ≤ j → zAz d (rowB d i p j q k)) := zA fun k h1 h2 => zCy hl hm hp hq hpq h1 h2;rw [hsp] at HC1;clear hsp hl hm hp hq hpq;rw [HP.out, HP.out] at HC1 ⊢;have HFR : Hid (∀ k W, k < d.length → Below W1.heap.size W1 W → Calls zV 161 #[.slice va d.length vc, .agg #[.int .i64 i, .int .i64 p], .agg #[.int .i64 j, .int .i64 q], .int .i64 k] W fun e w' => e = .returned (.tuple #[.int .i64 (rowB d i p j q k).2.1, .int .i64 (rowB d i p j q k).2.2]) ∧ Below W.heap.size W w') := zA fun k W hk hW => zJi _ d i p j q k W S (HL.out.below (zZ _) hW) hk;go_enter Tryz.func106, Tryz.ntmps106;go_wp2_with (go_at_call 160; refine HC1.out.mono ?_; rintro e w2 ⟨rfl, hb2⟩; obtain ⟨q1, g1⟩ := blk (HB.out _ hb2).1; obtain ⟨q2, g2⟩ := blk (HB.out _ hb2).2);clear p1 f1 p2 f2 q1 g1 q2 g2 hW1;go_loopw [8, 9] (fun out z wr => ∃ k : Nat, i ≤ k ∧ k ≤ j + 1 ∧ z = .int .i64 k ∧ Hid (DocR true wr (fun b => W1.heap.size ≤ b) out ((kE d i p j q k).map (kY d))) ∧ Below W1.heap.size W1 wr) (fun _ z _ => j + 1 - (intOf z).toNat)
 case atStart => exact ⟨i, zC _, by omega, rfl, zA (by rw [zCg]; exact SliceR.nil _ _ _ _ _ _), hb2⟩
 case round =>
  obtain ⟨k, hk1, hk2, rfl, HO, hb⟩ := hrel;obtain ⟨p1, f1⟩ := blk (HB.out _ hb).1;obtain ⟨p2, f2⟩ := blk (HB.out _ hb).2
  by_cases hlt : k ≤ j
  ·obtain ⟨ln, hln, _⟩ := jJ d k qE
   have hfl := HF.out.2 ln (List.mem_of_getElem? hln);obtain ⟨ln', hln', hft, htl⟩ := HOK.out k hk1 hlt;have hln' : d[k]? = some ln' := hln';rw [hln] at hln';cases hln'
   have HT : Hid ((kE d i p j q (k + 1)).map (kY d) = (kE d i p j q k).map (kY d) ++ [{ ln with cells := (ln.cells.drop (rowB d i p j q k).2.1).take ((rowB d i p j q k).2.2 - (rowB d i p j q k).2.1) }]) := zA (by
    rw [zCc d hk1, List.map_append, List.map_singleton, zFZ (x := rowB d i p j q k) hln])
   have HFK := zA (fun W hW => HFR.out k W qE hW);obtain ⟨xf, hxf⟩ : ∃ z, (rowB d i p j q k).2.1 = z := ⟨_, rfl⟩;obtain ⟨xt, hxt⟩ : ∃ z, (rowB d i p j q k).2.2 = z := ⟨_, rfl⟩;rw [hxf, hxt] at HFK HT hft;rw [hxt] at htl;obtain ⟨va', vc', hve, hvc, hvm, hx⟩ := kJ HL.out;cases hve;obtain ⟨b1, o1, la, lc, ca, cc, rfl, hAk⟩ := hx k ln hln;have HAK := zA hAk;have hccl := hAk.cellsR.len;obtain ⟨row, hrow⟩ : ∃ row, (ln.cells.drop xf).take (xt - xf) = row := ⟨_, rfl⟩;have hrl : row.length = xt - xf := by rw [← hrow, List.length_take, List.length_drop]; omega
   rw [hrow] at HT;have HFM : Hid (∀ W, Below W1.heap.size W1 W → Calls zV 162 #[linV ln (.slice la ln.lists.length lc) (.slice ca ln.cells.length cc)] W fun e w' => ∃ a', e = .returned (linV ln a' (.slice none 0 0)) ∧ jL true w' (fun b => W.heap.size ≤ b) a' ln.lists ∧ Below W.heap.size W w') := zA fun W hW => zIq ln _ _ false false W S (hAk.below hW).listsR (hAk.below hW).cellsR hfl.1
   have hpair : ∃ X, Hid (∀ W', Below W1.heap.size W1 W' → Calls zV 163 #[.slice X (xt - xf) (cc - xf)] W' fun e w' => ∃ v', e = .returned v' ∧ jE true w' (fun b => W'.heap.size ≤ b) v' row ∧ Below W'.heap.size W' w') ∧ ((cc = xf ∧ ca = X) ∨ (¬ cc = xf ∧ ca.map (·.add (xf * 3)) = X)) := by
    have hh : ∀ W', Below W1.heap.size W1 W' → jE false W' S (sliced ca xf xt cc 3) row := fun W' hW => by
     rw [← hrow];exact (hAk.below hW).cellsR.part (i := xf) (j := xt) (m := cc) hft htl qE (zC _)
    by_cases hcq : cc = xf
    ·exact ⟨ca, zA fun W hW => zFd _ row false W S (by have := hh W hW; simpa only [sliced, if_pos hcq] using this) qE, .inl ⟨hcq, rfl⟩⟩
    ·exact ⟨_, zA fun W hW => zFd _ row false W S (by have := hh W hW; simpa only [sliced, if_neg hcq] using this) qE, .inr ⟨hcq, rfl⟩⟩
   obtain ⟨X, HOW, hcq⟩ := hpair;unfold maxLen at hvm hccl;have i0 : (0 : Int) ≤ (k : Int) := zR _;have i1 : (k : Int) < (d.length : Int) := by omega
   have u0 : (0 : Int) ≤ (xf : Int) := zR _;have u1 : (xf : Int) ≤ (xt : Int) := by omega
   have u2 : (xt : Int) ≤ (cc : Int) := by omega
   have hlr : ((kE d i p j q k).map (kY d)).length ≤ 1000000 := by simp [kE]; omega
   have hwb := hb.size;have HO2 := zA (SliceR.bounded (zZ true) HO.out);clear hx hAk hln hln' hrow hxf hxt hfl hft htl HFR HO hrl;unfold linV at HFM;rcases hcq with ⟨hcq, hX⟩ | ⟨hcq, hX⟩
   ·subst hcq ; subst hX ; have hee : xt = cc := qE ; subst hee ; rw [Nat.sub_self] at HOW
    go_wp2_with (first
     | (go_at_call 161; refine (HFK.out _ hb).mono ?_; rintro e w3 ⟨rfl, hb3⟩; have hx3 := zW hb hb3; obtain ⟨_, c0, c1, c2, c3, _, _⟩ := HAK.out.below hx3)
     | (go_at_call 162; refine (HFM.out _ hx3).mono ?_; rintro e w4 ⟨a', rfl, ha4, hb4⟩; obtain ⟨a4, c4, rfl⟩ := ha4.slice; have hx4 := zW hx3 hb4; obtain ⟨_, _, _, _, d3, _, _⟩ := HAK.out.below hx4; have d3a := jR d3; have hz34 := hb3.size; have hz44 := hb4.size; have HI4 := zA (SliceR.bounded (qB _) ha4); clear ha4)
     | (go_at_call 163; refine (HOW.out _ (hx4.alloc hx4.size _)).mono ?_; rintro e w6 ⟨v6, rfl, hv6, hb6⟩; obtain ⟨a6, c6, rfl⟩ := hv6.slice; have m6 := zX hb6 (jF _ _ rfl); obtain ⟨r6, s6⟩ := blk m6; have hx6 := zW (hx4.alloc hx4.size _) hb6; have hb46 : Below w4.heap.size w4 w6 := zW ((zE _ _).alloc (zC _) _) hb6; have hbr6 : Below wr.heap.size wr w6 := zW hb3 (zW hb4 hb46); have hz6 := hx6.size; have HV6 := zA hv6; clear hv6)
     | (at_builtin; refine uF _ rfl _ _ 22 22 rfl kU kH W1.heap.size _ _ (xs := (kE d i p j q k).map (kY d)) (ys := [{ ln with cells := row }]) (news := [.int .i64 ln.quote, .slice a4 ln.lists.length c4, .int .i64 ln.kind, .slice a6 row.length c6]) rfl rfl (HO2.out.stable (zZ _) (((Keeps.all hbr6).set (fun hh => (Nat.not_lt.2 (zD hz34 hz44)) hh.2) _).alloc _) (fun _ h _ => h.1)) jD (zAH kU (w6.setCell ⟨w4.heap.size, 3, none⟩ (.slice a6 row.length c6)) _ rfl (zCm _ _ _ _ _ _ _) 1 qT) (NewsR.one rfl ⟨_, _, rfl, HI4.out.stable (qB _) (((Keeps.all hb46).set (fun hh => (Nat.lt_irrefl _) hh.2) _).alloc _) (fun b h _ => zD (zD hwb hz34) h.1), HV6.out.stable (qB _) (((qM _ _).set qT _).alloc _) (fun b h _ => by have h' := h; simp at h'; omega)⟩) (by simp [kE]; omega) ?_; intro v' w7 hR hB7 _ _; rw [← HT.out] at hR; have HR7 := zA hR; have HB7 := zA hB7; clear hR hB7))
    go_roundw
    case rel => exact ⟨k + 1, by omega, by omega, by go_num, zA HR7.out, ((hx6.setCell (by show W1.heap.size ≤ w4.heap.size; omega) _).alloc jD _).trans HB7.out⟩
    case measure => simp [intOf]; omega
   ·subst hX
    go_wp2_with (first
     | (go_at_call 161; refine (HFK.out _ hb).mono ?_; rintro e w3 ⟨rfl, hb3⟩; have hx3 := zW hb hb3; obtain ⟨_, c0, c1, c2, c3, _, _⟩ := HAK.out.below hx3)
     | (go_at_call 162; refine (HFM.out _ hx3).mono ?_; rintro e w4 ⟨a', rfl, ha4, hb4⟩; obtain ⟨a4, c4, rfl⟩ := ha4.slice; have hx4 := zW hx3 hb4; obtain ⟨_, _, _, _, d3, _, _⟩ := HAK.out.below hx4; have d3a := jR d3; have hz34 := hb3.size; have hz44 := hb4.size; have HI4 := zA (SliceR.bounded (qB _) ha4); clear ha4)
     | (go_at_call 163; refine (HOW.out _ (hx4.alloc hx4.size _)).mono ?_; rintro e w6 ⟨v6, rfl, hv6, hb6⟩; obtain ⟨a6, c6, rfl⟩ := hv6.slice; have m6 := zX hb6 (jF _ _ rfl); obtain ⟨r6, s6⟩ := blk m6; have hx6 := zW (hx4.alloc hx4.size _) hb6; have hb46 : Below w4.heap.size w4 w6 := zW ((zE _ _).alloc (zC _) _) hb6; have hbr6 : Below wr.heap.size wr w6 := zW hb3 (zW hb4 hb46); have hz6 := hx6.size; have HV6 := zA hv6; clear hv6)
     | (at_builtin; refine uF _ rfl _ _ 22 22 rfl kU kH W1.heap.size _ _ (xs := (kE d i p j q k).map (kY d)) (ys := [{ ln with cells := row }]) (news := [.int .i64 ln.quote, .slice a4 ln.lists.length c4, .int .i64 ln.kind, .slice a6 row.length c6]) rfl rfl (HO2.out.stable (zZ _) (((Keeps.all hbr6).set (fun hh => (Nat.not_lt.2 (zD hz34 hz44)) hh.2) _).alloc _) (fun _ h _ => h.1)) jD (zAH kU (w6.setCell ⟨w4.heap.size, 3, none⟩ (.slice a6 row.length c6)) _ rfl (zCm _ _ _ _ _ _ _) 1 qT) (NewsR.one rfl ⟨_, _, rfl, HI4.out.stable (qB _) (((Keeps.all hb46).set (fun hh => (Nat.lt_irrefl _) hh.2) _).alloc _) (fun b h _ => zD (zD hwb hz34) h.1), HV6.out.stable (qB _) (((qM _ _).set qT _).alloc _) (fun b h _ => by have h' := h; simp at h'; omega)⟩) (by simp [kE]; omega) ?_; intro v' w7 hR hB7 _ _; rw [← HT.out] at hR; have HR7 := zA hR; have HB7 := zA hB7; clear hR hB7))
    go_roundw
    case rel => exact ⟨k + 1, by omega, by omega, by go_num, zA HR7.out, ((hx6.setCell (by show W1.heap.size ≤ w4.heap.size; omega) _).alloc jD _).trans HB7.out⟩
    case measure => simp [intOf]; omega
  ·obtain rfl : k = j + 1 := by omega
   have HBB := zA hb;clear hb;go_wp2_with fail;go_ret2;unfold DocSaid;rw [HR.out];exact ⟨_, rfl, qG (zZ true) HO.out (qM _ _) (fun b h _ => zD hs1 h), H1.out.trans (HBB.out.mono hs1)⟩
theorem zFo (d : Doc) (i p j q : Nat) : ∀ n : Nat, i + n ≤ d.length → (kW d (kE d i p j q (i + n))).length ≤ jQ (d.take (i + n))
 | 0, _ => by rw [Nat.add_zero, zCg]; simp [kW]
 | n + 1, h => by
  have ih := zFo d i p j q n qE;obtain ⟨l, hl, _⟩ := jJ d (i + n) qE;have hs := zBw hl;rw [show i + (n + 1) = i + n + 1 by omega, zCc d qE, zFn, zS]
  have : (uR d (rowB d i p j q (i + n))).length ≤ l.cells.length := by
   rw [zDJ (x := rowB d i p j q (i + n)) hl, List.length_take, List.length_drop]
   omega
  omega
theorem uW (d : Doc) (a b : Ps) : (cellsD d a b).length ≤ jQ d := by
 unfold cellsD
 split
 ·rename_i h
  obtain ⟨_, i, j, p, q, l, m, rfl, rfl, hl, hm, _, _, hij, _⟩ := uI h;have hjl := (zK.1 hm).1;have := zFo d i p j q (j + 1 - i) qE;rw [show i + (j + 1 - i) = j + 1 by omega] at this;exact zD this (zAF d _)
 ·simp
theorem zJV (d : Doc) (a b : Ps) : jQ (kX d a b).1 = (cellsD d a b).length := by
 unfold kX cellsD
 split
 ·exact zEX d _
 ·rfl
theorem zJW (d : Doc) (a b : Ps) : (kX d a b).1.flatMap (·.cells) = cellsD d a b := by
 unfold kX cellsD
 split
 ·exact zFI d _
 ·rfl
set_option maxRecDepth 100000 in
theorem zEK (v : Value) (d : Doc) (a b : Ps) (w : World) (S : Nat → Prop) (h : jC w S v d) (hs : Small d) (hf : Fits d) :
  Calls zV 65 #[v, posV a, posV b] w fun e w' => ∃ v', e = .returned v' ∧ jE true w' (fun b => w.heap.size ≤ b) v' (cellsD d a b) ∧ Below w.heap.size w w' := by
 obtain ⟨W1, hW1, hB, hz, hA1, hA2⟩ := yP w (.int .i64 a.line) (.int .i64 a.col) (.int .i64 b.line) (.int .i64 b.col);have HC := zA (zJf v d a b W1 S (h.below (zZ _) hB) hs hf);have HP : Hid (∀ p : Ps, posV p = .agg #[.int .i64 p.line, .int .i64 p.col]) := zA fun _ => rfl;have HN := zA (zJW d a b);have HM : Hid (jQ (kX d a b).1 ≤ 100000) := zA (by rw [zJV]; exact zD (uW d a b) hs.1);have H1 := zA hB;have hs1 := hB.size;obtain ⟨p1, f1⟩ := blk hA1;obtain ⟨p2, f2⟩ := blk hA2;obtain ⟨va, vc, rfl⟩ := h.slice
 generalize kX d a b = r at *
 clear h hs hf hA1 hA2 hB;rw [HP.out a, HP.out b] at HC ⊢;obtain ⟨x, err⟩ := r;go_enter Tryz.func65, Tryz.ntmps65;go_wp2_with (go_at_call 106; refine HC.out.mono ?_; intro e w2 hsaid; obtain ⟨v2, rfl, hv2, hb2⟩ := hsaid; obtain ⟨a2, c2, rfl, hc2, hm2, hx2⟩ := kJ hv2.read; have HX := zA hx2; clear hv2 hx2);have hw2 : Below w.heap.size w w2 := H1.out.trans (hb2.mono hs1);have HW2 := zA hw2;unfold maxLen at hm2;clear p1 f1 p2 f2 hW1 hw2;go_loopw [9, 10] (fun out z wr => ∃ k : Nat, k ≤ x.length ∧ z = .int .i64 k ∧ Hid (jE true wr (fun b => w2.heap.size ≤ b) out ((x.take k).flatMap (·.cells))) ∧ Below w2.heap.size w2 wr) (fun _ z _ => x.length - (intOf z).toNat)
 case atStart => exact ⟨0, Nat.zero_le _, rfl, zA (SliceR.nil _ _ _ _ _ _), zE _ _⟩
 case round =>
  obtain ⟨k, hk, rfl, HO, hb⟩ := hrel
  by_cases hlt : k < x.length
  ·obtain ⟨ln, hln, _⟩ := jJ x k hlt
   obtain ⟨b1, o1, la, lc, ca, cc, rfl, hAk⟩ := HX.out k ln hln;obtain ⟨_, _, _, _, c3, _, _⟩ := hAk.below hb;have HS := zA (SliceR.src_flat vQ vS (hAk.below hb).cellsR);have HT : Hid ((x.take (k + 1)).flatMap (·.cells) = (x.take k).flatMap (·.cells) ++ ln.cells) := zA (by rw [xF hln, List.flatMap_append]; simp)
   have HFL : Hid (((x.take k).flatMap (·.cells)).length + ln.cells.length ≤ 100000000) := zA (by
    have h1 : ((x.take (k + 1)).flatMap (·.cells)).length = jQ (x.take (k + 1)) := by unfold jQ; rw [List.length_flatMap]
    rw [HT.out, zS] at h1;have h2 := zAF x (k + 1);have h3 := HM.out;have h3 : jQ x ≤ 100000 := h3
    omega)
   have i0 : (0 : Int) ≤ (k : Int) := zR _;have i1 : (k : Int) < (x.length : Int) := by omega
   have hbs := hb.size;clear hAk hln;go_wp2_with (at_builtin; refine uF _ rfl _ _ 44 44 rfl vQ vS w2.heap.size _ _ (xs := (x.take k).flatMap (fun y : Lin => y.cells)) (ys := ln.cells) (news := ln.cells.flatMap kV) rfl rfl HO.out hbs HS.out (zDR _ _ _) HFL.out ?_; intro v' w1 hR hB' _ _; rw [← HT.out] at hR; have HR := zA hR; have HB' := zA hB'; clear hR hB');go_roundw
   case rel => exact ⟨k + 1, hlt, by go_num, zA HR.out, hb.trans HB'.out⟩
   case measure => simp [intOf]; omega
  ·obtain rfl : k = x.length := by omega
   have HT : Hid ((x.take x.length).flatMap (·.cells) = cellsD d a b) := zA (by rw [List.take_length]; exact HN.out);have HB := zA hb;clear hb;go_wp2_with fail;go_ret;have h9 := HO.out;rw [HT.out] at h9;exact ⟨_, rfl, qG (qB _) h9 (qM _ _) (fun b h _ => zD HW2.out.size h), zW HW2.out HB.out⟩
theorem zEL (v : Value) (d : List Cel) (i j : Int) (w : World) (S : Nat → Prop) (own : Bool) (h : jE own w S v d) :
  Calls zV 96 #[v, .int .i64 i, .int .i64 j] w fun e w' => e = .returned (.bool (yT d.length i j)) ∧ w' = w := by
 obtain ⟨a, c, rfl⟩ := h.slice;clear h;have HS : Hid (yT d.length i j = (decide (0 ≤ i) && (decide (i ≤ j) && decide (j ≤ (d.length : Int))))) := zA rfl;go_enter Tryz.func96, Tryz.ntmps96;go_wp2_with fail
 all_goals
  go_ret;refine ⟨?_, rfl⟩;rw [HS.out];refine congrArg Ending.returned (congrArg Value.bool ?_);clear HS;simp (config := { failIfUnchanged := false }) [*]
 all_goals try omega
set_option maxRecDepth 100000 in
theorem zJj (v : Value) (d : List Cel) (t : Int) (w : World) (S : Nat → Prop) (h : jE false w S v d) :
  Calls zV 55 #[v, .int .i64 0, .int .i64 d.length, .int .i64 t] w fun e w' => e = .returned (.bool (decide (0 < d.length) && d.all fun x => bits .and .i64 x.bits t == t)) ∧ w' = w := by
 have HC1 := zA (zEL v d 0 d.length w S false h);have hsp : yT d.length 0 d.length = true := by unfold yT; simp
 rw [hsp] at HC1;obtain ⟨a, cc, rfl, hcc, hcm, hx⟩ := yO h;have HX := zA hx;unfold maxLen at hcm;clear h hsp hx;go_enter Tryz.func55, Tryz.ntmps55;go_wp2_with (go_at_call 96; refine HC1.out.mono ?_; rintro e w2 ⟨rfl, rfl⟩);go_loop [9] (fun q => ∃ k : Nat, k ≤ d.length ∧ q = .int .i64 k ∧ Hid (∀ x ∈ d.take k, (bits .and .i64 x.bits t == t) = true)) (fun q => d.length - (intOf q).toNat)
 case atStart => exact ⟨0, Nat.zero_le _, rfl, zA qT⟩
 case round =>
  obtain ⟨k, hk, rfl, HI⟩ := hrel
  by_cases hlt : k < d.length
  ·obtain ⟨x, hxx, _⟩ := jJ d k hlt
   obtain ⟨b, o, rfl, hz, c0, c1, c2⟩ := HX.out k x hxx;have HXX := zA hxx;have i0 : (0 : Int) ≤ (k : Int) := zR _;have i1 : (k : Int) < (d.length : Int) := by omega
   clear hxx;cases ht : (bits .and .i64 x.bits t != t)
   ·have HT := zA ht
    go_wp2_with fail;go_round
    case rel =>
     refine ⟨k + 1, hlt, by go_num, zA ?_⟩;intro y hy;rw [xF HXX.out, List.mem_append, List.mem_singleton] at hy;rcases hy with hy | rfl
     ·exact HI.out y hy
     ·have := HT.out; simpa using this
    case measure => simp [intOf]; omega
   ·have HT := zA ht
    have HM := zA (List.mem_of_getElem? HXX.out);go_wp2_with fail;go_ret;refine ⟨?_, rfl⟩;refine congrArg Ending.returned (congrArg Value.bool ?_);have h1 := HT.out;have h2 := HM.out;clear HT ht
    first
     | (refine (Bool.eq_false_iff.2 fun hh => ?_).symm
        rw [Bool.and_eq_true, List.all_eq_true] at hh;have := hh.2 x h2;rw [bne, this] at h1;cases h1)
     | exact (List.any_eq_true.2 ⟨x, h2, h1⟩).symm
  ·obtain rfl : k = d.length := by omega
   go_wp2_with fail;go_ret;refine ⟨?_, rfl⟩;refine congrArg Ending.returned (congrArg Value.bool ?_);have hI := HI.out;rw [List.take_length] at hI
   first
    | (rw [show (d.all fun x => bits .and .i64 x.bits t == t) = true from List.all_eq_true.2 hI, Bool.and_true])
    | exact (List.any_eq_false.2 fun x hx => by rw [hI x hx]; simp).symm
set_option maxRecDepth 100000 in
theorem zIs (v : Value) (d : List Cel) (t : Int) (w : World) (S : Nat → Prop) (h : jE false w S v d) :
  Calls zV 54 #[v, .int .i64 0, .int .i64 d.length, .int .i64 t] w fun e w' => e = .returned (.bool (d.any fun x => bits .and .i64 x.bits t != 0)) ∧ w' = w := by
 have HC1 := zA (zEL v d 0 d.length w S false h);have hsp : yT d.length 0 d.length = true := by unfold yT; simp
 rw [hsp] at HC1;obtain ⟨a, cc, rfl, hcc, hcm, hx⟩ := yO h;have HX := zA hx;unfold maxLen at hcm;clear h hsp hx;go_enter Tryz.func54, Tryz.ntmps54;go_wp2_with (go_at_call 96; refine HC1.out.mono ?_; rintro e w2 ⟨rfl, rfl⟩);go_loop [9] (fun q => ∃ k : Nat, k ≤ d.length ∧ q = .int .i64 k ∧ Hid (∀ x ∈ d.take k, (bits .and .i64 x.bits t != 0) = false)) (fun q => d.length - (intOf q).toNat)
 case atStart => exact ⟨0, Nat.zero_le _, rfl, zA qT⟩
 case round =>
  obtain ⟨k, hk, rfl, HI⟩ := hrel
  by_cases hlt : k < d.length
  ·obtain ⟨x, hxx, _⟩ := jJ d k hlt
   obtain ⟨b, o, rfl, hz, c0, c1, c2⟩ := HX.out k x hxx;have HXX := zA hxx;have i0 : (0 : Int) ≤ (k : Int) := zR _;have i1 : (k : Int) < (d.length : Int) := by omega
   clear hxx;cases ht : (bits .and .i64 x.bits t != 0)
   ·have HT := zA ht
    go_wp2_with fail;go_round
    case rel =>
     refine ⟨k + 1, hlt, by go_num, zA ?_⟩;intro y hy;rw [xF HXX.out, List.mem_append, List.mem_singleton] at hy;rcases hy with hy | rfl
     ·exact HI.out y hy
     ·have := HT.out; simpa using this
    case measure => simp [intOf]; omega
   ·have HT := zA ht
    have HM := zA (List.mem_of_getElem? HXX.out);go_wp2_with fail;go_ret;refine ⟨?_, rfl⟩;refine congrArg Ending.returned (congrArg Value.bool ?_);have h1 := HT.out;have h2 := HM.out;clear HT ht
    first
     | (refine (Bool.eq_false_iff.2 fun hh => ?_).symm
        rw [Bool.and_eq_true, List.all_eq_true] at hh;have := hh.2 x h2;rw [bne, this] at h1;cases h1)
     | exact (List.any_eq_true.2 ⟨x, h2, h1⟩).symm
  ·obtain rfl : k = d.length := by omega
   go_wp2_with fail;go_ret;refine ⟨?_, rfl⟩;refine congrArg Ending.returned (congrArg Value.bool ?_);have hI := HI.out;rw [List.take_length] at hI
   first
    | (rw [show (d.all fun x => bits .and .i64 x.bits t == t) = true from List.all_eq_true.2 hI, Bool.and_true])
    | exact (List.any_eq_false.2 fun x hx => by rw [hI x hx]; simp).symm
theorem zIc {P : Program} {ops : Array Oper} {Q : Exit → Act → World → Prop} {l : List Oper} {a : Act} {w : World} (h : ∀ w', w = w' → wpList P ops Q l a w') : wpList P ops Q l a w := h w rfl
set_option maxRecDepth 100000 in
theorem zEC (l : Lin) (a b : Value) (o1 o2 : Bool) (w w0 : World) (S : Nat → Prop) (hL : jL o1 w0 S a l.lists) (hC : jE o2 w0 S b l.cells) (h0 : Below w0.heap.size w0 w) (hs : l.lists.length ≤ 1000000 ∧ l.cells.length ≤ 1000000) :
  Calls zV 158 #[linV l a b] w fun e w' => ∃ a', e = .returned (linV l a' (.slice none 0 0)) ∧ jL true w' (fun b => w.heap.size ≤ b) a' l.lists ∧ Below w.heap.size w w' := by
 have HO : Hid (∀ W, Below w0.heap.size w0 W → Calls zV 212 #[linV l a b] W fun e w' => ∃ a' b', e = .returned (linV l a' b') ∧ jL true w' (fun b => W.heap.size ≤ b) a' l.lists ∧ jE true w' (fun b => W.heap.size ≤ b) b' l.cells ∧ Below W.heap.size W w') := zA fun W hW => zBu l a b o1 o2 W w0 S hL hC hW hs;obtain ⟨la, lc, rfl⟩ := hL.slice;obtain ⟨ca, cc, rfl⟩ := hC.slice;obtain ⟨W1, hW1, hB, hz, hA1, hA2⟩ := uX w (.int .i64 l.quote) (.slice la l.lists.length lc) (.int .i64 l.kind) (.slice ca l.cells.length cc) (.int .i64 0) (.slice none 0 0) (.int .i64 0) (.slice none 0 0);have hs1 := hB.size;have HB0 : Hid (∀ W, Below W1.heap.size W1 W → W.heap[w.heap.size]? = some (.cells #[.int .i64 l.quote, .slice la l.lists.length lc, .int .i64 l.kind, .slice ca l.cells.length cc] 47)) := zA fun W hW => zX hW hA1;have HB1 : Hid (∀ W, Below W1.heap.size W1 W → W.heap[w.heap.size + 1]? = some (.cells #[.int .i64 0, .slice none 0 0, .int .i64 0, .slice none 0 0] 47)) := zA fun W hW => zX hW hA2;have H1 := zA hB;have h01 : Below w0.heap.size w0 W1 := zW h0 hB;obtain ⟨p1, f1⟩ := blk hA1;obtain ⟨p2, f2⟩ := blk hA2;clear hL hC hs hB h0;unfold linV at HO ⊢;go_enter Tryz.func158, Tryz.ntmps158;go_wp2_with (first | (go_at_call 212; refine (HO.out _ h01).mono ?_; rintro e w2 ⟨a', b', rfl, ha', hb', hb2⟩; obtain ⟨a1, c1, rfl⟩ := ha'.slice; obtain ⟨a2, c2, rfl⟩ := hb'.slice; have hA3 := HB0.out _ hb2; have hA4 := HB1.out _ hb2; obtain ⟨p3, f3⟩ := blk hA3; obtain ⟨p4, f4⟩ := blk hA4) | (with_reducible show wpList _ _ _ _ _ _; refine wpList_load_row rfl 47 _ rfl w.heap.size rfl 47 #[.int .i64 l.quote, .slice a1 l.lists.length c1, .int .i64 l.kind, .slice none 0 0] (0, 0) _ (by simp [jN, jB, hA3]) Tryz.underlying47 rfl qC ?_; with_reducible refine zIc ?_; intro w3 hw3; have hA5 : w3.heap[w.heap.size + 1]? = some (.cells #[.int .i64 0, .slice none 0 0, .int .i64 0, .slice none 0 0] 47) := (by rw [← hw3]; simp [jN, hA4]); obtain ⟨p5, f5⟩ := blk hA5; clear p3 f3 p4 f4));refine bodyPost_ret (zDr rfl _ _ (w.heap.size + 1) (.int .i64 l.quote) (.slice a1 l.lists.length c1) (.int .i64 l.kind) (.slice none 0 0) rfl (by simp [jN, jB, hA5])) rfl ?_;have s2 := hb2.size;have hfin := H1.out.trans (hb2.mono hs1);have hf3 : Below w.heap.size w w3 := by rw [← hw3]; ((with_reducible repeat' first | exact zE _ _ | assumption | refine Below.alloc ?_ ?_ _ | refine Below.drew ?_ | refine jK ?_ | refine Below.setCell ?_ ?_ _) <;> go_size)
 have hi3 : jL true w3 (fun b => W1.heap.size ≤ b) (.slice a1 l.lists.length c1) l.lists := by rw [← hw3]; exact (qG (qB _) ha' (by ((with_reducible repeat' first | exact qM _ _ | refine Keeps.set ?_ ?_ _ | refine Keeps.alloc ?_ _ | refine Keeps.drew ?_) <;> (simp; omega))) (fun b h _ => jM))
 exact ⟨_, rfl, (qG (qB _) hi3 (by ((with_reducible repeat' first | exact qM _ _ | refine Keeps.set ?_ ?_ _ | refine Keeps.alloc ?_ _ | refine Keeps.drew ?_) <;> (simp; omega))) (fun b h _ => jM)), by ((with_reducible repeat' first | exact zE _ _ | assumption | refine Below.alloc ?_ ?_ _ | refine Below.drew ?_ | refine jK ?_ | refine Below.setCell ?_ ?_ _) <;> go_size)⟩
def yR (l : Lin) (p : Nat) : Lin × Lin := ({ l with cells := l.cells.take p }, if l.cells.length ≤ p then { l with kind := 0, cells := [] } else { l with cells := l.cells.drop p })
theorem zDc {fn : Func} {p q u : Tmp} (h : fn.results = #[.cell p 47, .cell q 47, .tmp u]) (tmps : Array Value) (w : World) (B C : Nat) (x1 x2 x3 x4 y1 y2 y3 y4 : Value) (hp : tmps.getD p undef = .pointer (some ⟨B, 0, none⟩)) (hq : tmps.getD q undef = .pointer (some ⟨C, 0, none⟩))
  (hB : w.heap[B]? = some (.cells #[x1, x2, x3, x4] 47)) (hC : w.heap[C]? = some (.cells #[y1, y2, y3, y4] 47)) :
  (results fn tmps).run zV w = .ok (.tuple #[.agg #[x1, x2, x3, x4], .agg #[y1, y2, y3, y4], tmps.getD u undef]) w := by
 have h1 := run_loadVar_row (P := zV) w B 47 47 _ _ _ hB Tryz.underlying47 rfl qC;have h2 := run_loadVar_row (P := zV) w C 47 47 _ _ _ hC Tryz.underlying47 rfl qC;have hp' : tmps[p]?.getD undef = .pointer (some ⟨B, 0, none⟩) := by simpa using hp
 have hq' : tmps[q]?.getD undef = .pointer (some ⟨C, 0, none⟩) := by simpa using hq
 simp [results, h, hp', hq', asAddr, h1, h2]
theorem SliceR.caps {α : Type} {t : TypeId} {k : Nat} {R : Rd α} {own : Bool} {w : World} {S : Nat → Prop} {xs : List α} {a : Option Addr} {n c : Nat} (h : SliceR t k R own w S (.slice a n c) xs) {m : Nat} (hn : xs.length ≤ m) (hm : m ≤ c) : SliceR t k R own w S (.slice a n m) xs := by
 obtain ⟨a', c', e, hc, hcm, hx⟩ := h;cases e;refine ⟨a, m, rfl, hn, by omega, ?_⟩;rcases hx with ⟨rfl, h0⟩ | ⟨b, o, rfl, hb, hz, hf, he⟩
 ·exact .inl ⟨rfl, fun ho => by have := h0 ho; omega⟩
 ·refine .inr ⟨b, o, rfl, hb, hz, fun ho => ?_, he⟩
  obtain ⟨cs, g1, g2⟩ := hf ho;exact ⟨cs, g1, zD (Nat.add_le_add_left (Nat.mul_le_mul_right _ hm) _) g2⟩
theorem zKu {Y : World} {S : Nat → Prop} {a : Option Addr} {n c p : Nat} {xs : List Cel} (h : jE true Y S (.slice a n c) xs) (hp : p ≤ xs.length) (hcp : ¬ c = p) : jE true Y S (.slice (Option.map (fun x => x.add (p * 3)) a) (xs.length - p) (c - p)) (xs.drop p) := by
 have := SliceR.part h (i := p) (j := xs.length) (m := c) hp (zC _) h.len.2.1 (zC _);rw [List.take_of_length_le zAP] at this
 simpa only [sliced, if_neg hcp] using this
theorem zDN {P : Program} {c : Code} {Q : Exit → Act → World → Prop} {a : Act} {w : World} (h : ∀ w', w = w' → c.wp P Q a w') : c.wp P Q a w := h w rfl
theorem xG (w : World) : w.drew.heap = w.heap := rfl
theorem kA (X : World) (B : Nat) (t : TypeId) (z1 z2 z3 z4 x1 x2 x3 x4 : Value) (h : X.heap[B]? = some (.cells #[z1, z2, z3, z4] t)) : ∃ Y, (((X.setCell ⟨B, 0, none⟩ x1).setCell ⟨B, 1, none⟩ x2).setCell ⟨B, 2, none⟩ x3).setCell ⟨B, 3, none⟩ x4 = Y ∧ Y.heap[B]? = some (.cells #[x1, x2, x3, x4] t) ∧ Y.heap.size = X.heap.size ∧
  (∀ b, b ≠ B → Y.heap[b]? = X.heap[b]?) ∧ (∀ n, n ≤ B → ∀ w, Below n w X → Below n w Y) := by
 refine ⟨_, rfl, by simp [jN, jB, h], by simp, fun b hb => by simp [jN, Ne.symm hb], fun n hn w hw => ?_⟩;exact (((hw.setCell hn _).setCell hn _).setCell hn _).setCell hn _
def zAr (cs : List Cel) (p : Nat) (more : List Cel) : List Cel := cs.take p ++ more ++ cs.drop p
theorem zLr {w : World} {S : Nat → Prop} {a : Option Addr} {n c p : Nat} {xs : List Cel} (h : jE false w S (.slice a n c) xs) (hp : p ≤ xs.length) :
  ∃ X, jE false w S (.slice X (xs.length - p) (c - p)) (xs.drop p) ∧ ((c = p ∧ a = X) ∨ (¬ c = p ∧ a.map (·.add (p * 3)) = X)) := by
 obtain ⟨_, h2, h3⟩ := h.len;have := SliceR.part h (i := p) (j := xs.length) (m := c) hp (zC _) h2 (zC _);rw [List.take_of_length_le zAP] at this
 by_cases hcp : c = p
 ·exact ⟨a, by simpa only [sliced, if_pos hcp] using this, .inl ⟨hcp, rfl⟩⟩
 ·exact ⟨_, by simpa only [sliced, if_neg hcp] using this, .inr ⟨hcp, rfl⟩⟩
set_option maxRecDepth 100000 in
theorem zHi (ca vb : Option Addr) (cc vc p : Nat) (cs more : List Cel) (w w0 w1 : World) (S S2 : Nat → Prop) (o1 o2 : Bool) (h' : jE o1 w0 S (.slice ca cs.length cc) cs) (hm' : jE o2 w1 S2 (.slice vb more.length vc) more)
  (h0 : Below w0.heap.size w0 w) (h1 : Below w1.heap.size w1 w) (hp : p ≤ cs.length) (hs : cs.length ≤ 1000000) (hs2 : more.length ≤ 1000000) :
  Calls zV 168 #[.slice ca cs.length cc, .int .i64 p, .slice vb more.length vc] w (CellsSaid (zAr cs p more) 0 w) := by
 have h : jE false w (fun _ => True) (.slice ca cs.length cc) cs := qG (qB _) (SliceR.read (fun _ _ h => h) h') (.all h0) (fun _ _ _ => trivial);have hm : jE false w (fun _ => True) (.slice vb more.length vc) more := qG (qB _) (SliceR.read (fun _ _ h => h) hm') (.all h1) (fun _ _ _ => trivial);have HC1 := zA (zDk _ cs p p w (fun _ => True) false h);have hsp : yT cs.length p p = true := by unfold yT; simp; omega
 rw [hsp] at HC1;obtain ⟨_, hccl, hccm⟩ := h.len;obtain ⟨X, hX, hcq⟩ := zLr h hp
 have hHC : ∀ W, Below w.heap.size w W → ∀ g, W.heap[g]? = some (.cells #[.slice ca p cc, .slice vb more.length vc, .slice X (cs.length - p) (cc - p)] 44) → Calls zV 179 #[.slice (some ⟨g, 0, none⟩) 3 3] W fun e w' => ∃ v', e = .returned v' ∧ jE true w' (fun b => W.heap.size ≤ b) v' (zAr cs p more) ∧ Below W.heap.size W w' := by
  intro W hW g hg;have ha := (SliceR.below (qB _) h hW).take (i := p) hp;have hb := SliceR.below (qB _) hm hW;have hc := SliceR.below (qB _) hX hW
  have := zEt g 3 #[.slice ca p cc, .slice vb more.length vc, .slice X (cs.length - p) (cc - p)] [cs.take p, more, cs.drop p] W (fun _ => True) hg (fun k xs hk => by
   match k, hk with
   | 0, hk => cases hk; exact ⟨_, rfl, ha⟩
   | 1, hk => cases hk; exact ⟨_, rfl, hb⟩
   | 2, hk => cases hk; exact ⟨_, rfl, hc⟩) (by simp [lens]; omega) qT rfl
  simpa [zAr] using this
 have HC := zA hHC;have hBd : ∀ X, Below w.heap.size w (w.alloc X).drew := fun X => ((zE _ _).alloc (zC _) X).drew;unfold maxLen at hccm;have u0 : (0 : Int) ≤ (p : Int) := zR _;have u1 : (p : Int) ≤ (cc : Int) := by omega
 have u2 : (p : Int) ≤ (cs.length : Int) := by omega
 clear h hm h' hm' hX hHC hsp;rcases hcq with ⟨rfl, rfl⟩ | ⟨hcq, rfl⟩
 ·rw [Nat.sub_self, show cs.length - cc = 0 by omega] at HC
  go_enter Tryz.func168, Tryz.ntmps168;go_wp2_with (go_at_call 213; refine HC1.out.mono ?_; rintro e w2 ⟨rfl, rfl⟩);go_region_held3 (fun _ => True) (trivial) ((go_at_call 179; refine (HC.out _ (hBd _) _ (jF _ _ rfl)).mono ?_; rintro e w5 ⟨v5, rfl, hv5, hb5⟩; obtain ⟨a5, c5, hv5e⟩ := hv5.slice; subst hv5e));go_wp2_with fail;go_ret2;exact ⟨_, rfl, qG (qB _) hv5 (qM _ _) (fun b h _ => zD (hBd _).size h), zW (hBd _) hb5⟩
 ·skip
  go_enter Tryz.func168, Tryz.ntmps168;go_wp2_with (go_at_call 213; refine HC1.out.mono ?_; rintro e w2 ⟨rfl, rfl⟩);go_region_held3 (fun _ => True) (trivial) ((go_at_call 179; refine (HC.out _ (hBd _) _ (jF _ _ rfl)).mono ?_; rintro e w5 ⟨v5, rfl, hv5, hb5⟩; obtain ⟨a5, c5, hv5e⟩ := hv5.slice; subst hv5e));go_wp2_with fail;go_ret2;exact ⟨_, rfl, qG (qB _) hv5 (qM _ _) (fun b h _ => zD (hBd _).size h), zW (hBd _) hb5⟩
end Go.Proofs.YtjgeadoncanheaaGreatDoor
namespace Go.Proofs.YtjgeadoncanheaaGreatDoor
open Go.RowKit
open Go.Proofs.Qw
attribute [local go_sem] Oper.semAt_some
attribute [local go_sem] Oper.semAt_some
open _root_.Go.Lib renaming hid → zA
open _root_.Nat renaming le_refl → zC
open _root_.Go renaming bodyPost_ret → zM
structure Kb (n₀ base top : Nat) (W W' : World) : Prop where
 below : Below n₀ W W'
 cells : ∀ k o, base ≤ k → k < top → W.heap[k]? = some o → o.isCells = true → W'.heap[k]? = some o
theorem Kb.t {n₀ base top : Nat} {A B C : World} (h : Kb n₀ base top A B) (k : Kb n₀ base top B C) : Kb n₀ base top A C := ⟨h.below.trans k.below, fun i o hi ht ho hc => k.cells i o hi ht (h.cells i o hi ht ho hc) hc⟩
theorem Kb.of_kp {n₀ base top : Nat} {A B : World} (h : Kp n₀ base A B) : Kb n₀ base top A B := ⟨h.below, fun i o hi _ ho hc => h.cells i o hi ho hc⟩
theorem Kb.b {n₀ base top : Nat} {w : World} (hn : n₀ ≤ w.heap.size) (W : World) (l : Nat) (o o' : Obj) (hl : w.heap.size ≤ l) (h : W.heap[l]? = some o) (hc : o.isCells = false) (hw : o.isWalk = false) : Kb n₀ base top W (W.putObj l o') := .of_kp (Kp.b hn W l o o' hl h hc hw)
theorem Kb.of_below {n₀ base top : Nat} {W W' : World} (hn : n₀ ≤ W.heap.size) (hb : Below W.heap.size W W') : Kb n₀ base top W W' := .of_kp (.of_below hn hb)
theorem Kb.of_top {n₀ base top Z : Nat} {W W' : World} (hn : n₀ ≤ Z) (ht : top ≤ Z) (hb : Below Z W W') : Kb n₀ base top W W' := ⟨hb.mono hn, fun k _ _ hk h _ => (hb.block k qE).trans h⟩
theorem Kb.setCell {n₀ base top : Nat} (W : World) {B o : Nat} (h1 : n₀ ≤ B) (h2 : B < base ∨ top ≤ B) (v : Value) : Kb n₀ base top W (W.setCell ⟨B, o, none⟩ v) :=
 ⟨(Below.refl _ _).setCell h1 _, fun k u hk ht h _ => by rw [Below.heap_setCell _ _ _ _ jD]; exact h⟩
theorem zHx {P : Program} {F : Fence} {n : Nat} {α : Type} {g : Operand} {ps : Array Tmp} {assign body : Code} {Q : Exit → Act → World → Prop} {a : Act} {w : World}
  (hro : F.round = none) (h1 : 1 ≤ n) {gf : Nat} {lb : Array Value} (hg : a.eval g = .func (.func gf) #[] lb) (hFg : F.fn gf) (eg : ∀ args w, (callFunc gf args).run P w = .ok (.enter gf args) w)
  {encs : α → Array Value} {n₀ base top : Nat} {S Sp : List α → Prop} {N : Nat} {w0 : World} (hseq : SeqStopsK F (n - 1) P gf lb encs (Kb n₀ base top) S Sp N w0)
  (hn : n₀ ≤ w.heap.size) (hb0 : Below w0.heap.size w0 w) (hps : ∀ x, (encs x).size = ps.size)
  (I : List α → World → Prop) (Ix : Code → List α → World → Prop) (hI : OwnFrom w.heap.size I) (hIx : ∀ c, OwnFrom w.heap.size (Ix c)) (h0 : I [] w) (hIz : ∀ pre W, I pre W → w.heap.size ≤ W.heap.size)
  (rc : α → Array Value) (rt : TypeId) (act : Nat → α → Act)
  (hassign : ∀ (l : Nat) (pre : List α) (x : α) (W : World) (K : Act → World → Prop) (Bx : Nat), Bx = W.heap.size → I pre W → K (act Bx x) (W.alloc (.cells (rc x) rt)) →
   assign.wpIn (F.inRound l) (n - 1 - 1) P (Exit.then K (fun _ _ _ => False)) { tmps := (ps.zip (encs x)).foldl (fun t (p, v) => t.setIfInBounds p v) a.tmps, defers := [] } W)
  (hbody : ∀ (l : Nat) (pre : List α) (x : α) (Bx : Nat) (W : World), I pre W → w.heap.size ≤ Bx → W.heap[Bx]? = some (.cells (rc x) rt) → pre.length < N → body.wpIn (F.inRound l) (n - 1 - 1) P (ownPostG w.heap.size (Kb n₀ base top) I Ix (pre ++ [x]) W) (act Bx x) W)
  (hdone : ∀ (D : Nat) (xs : List α) (W : World), w.heap.size ≤ D → S xs → I xs W → W.heap[D]? = some (.deferred (some [])) → Q .normal { a with defers := { target := .collected D, args := #[] } :: a.defers } W)
  (hstop : ∀ (D : Nat) (c : Code) (pre : List α) (W : World), w.heap.size ≤ D → Sp pre → Ix c pre W → W.heap[D]? = some (.deferred (some [])) → c.wpIn F n P Q { a with defers := { target := .collected D, args := #[] } :: a.defers } W) :
  (Code.rangeFunc g ps assign body).wpIn F n P Q a w := by
 refine wpIn_rangeFunc_ownH hro h1 hg hFg eg hseq (fun h k => h.t k) (Kb.b hn) hb0 hps I Ix hI hIx h0
  (fun x a' W => ∃ Bx, w.heap.size ≤ Bx ∧ W.heap[Bx]? = some (.cells (rc x) rt) ∧ a' = act Bx x) ?_ ?_ ?_ hdone hstop
 ·intro x a' _ X Y row hs hg hr
  obtain ⟨Bx, h1, h2, h3⟩ := hs;exact ⟨Bx, h1, (hg.block Bx (Array.getElem?_eq_some_iff.1 h2).1 (fun e => by obtain ⟨_, o, ho, hc⟩ := hr Bx e.symm; rw [h2] at ho; cases ho; cases hc)).trans h2, h3⟩
 ·intro l pre x W K hi hK
  exact hassign l pre x W K _ rfl hi (hK _ _ ((KeepsOthers.alloc _ _).from _) (Kb.of_below (Nat.le_trans hn (hIz _ _ hi)) ((Below.refl _ _).alloc (zC _) _)) (hI.alloc _ hi) ⟨_, hIz _ _ hi, jF _ _ rfl, rfl⟩)
 ·intro l pre x a' W hl hr hi ha hlt
  obtain ⟨Bx, h1, h2, rfl⟩ := ha;exact hbody l pre x Bx W hi h1 h2 hlt
set_option maxRecDepth 200000 in
theorem zIO (n l Bd Ba Bb base top : Nat) (v : Value) (d : Doc) (i p j q : Nat) (S : Nat → Prop) (J Jx : List (RowX d) → World → Prop) (w0 W : World) (hv : jC w0 S v d) (hb0 : Below w0.heap.size w0 W)
  (hbase : base ≤ Bd ∧ base ≤ Ba ∧ base ≤ Bb) (htop : Bd < top ∧ Ba < top ∧ Bb < top) (hD : W.heap[Bd]? = some (.cells #[v] 22)) (hA : W.heap[Ba]? = some (.cells #[.int .i64 i, .int .i64 p] 24)) (hB : W.heap[Bb]? = some (.cells #[.int .i64 j, .int .i64 q] 24))
  (hij : i ≤ j) (hj : j < d.length) (hok : ∀ k, i ≤ k → k ≤ j → zAz d (rowB d i p j q k)) (hlen : d.length ≤ 100000) (hJ : AbidesFrom W.heap.size J)
  (hY : ∀ (pre : List (RowX d)) (x : RowX d) W, J pre W → pre.length < 200000 → YieldAt Fence.wide (n - 1) Tryz.prog l (zAd x) W fun e W' =>
   (e = .returned (.bool true) ∧ J (pre ++ [x]) W' ∧ Kb w0.heap.size base top W W') ∨ (e = .returned (.bool false) ∧ Jx (pre ++ [x]) W'))
  (h0 : J [] W) :
  CallsIn Fence.wide n Tryz.prog 209 #[.func (.yield l) #[] #[], .pointer (some ⟨Ba, 0, none⟩), .pointer (some ⟨Bb, 0, none⟩), .pointer (some ⟨Bd, 0, none⟩)] W fun e W' => (∃ v, e = .returned v) ∧
   ((∃ ys : List (RowX d), ys.map (·.1) = kE d i p j q (j + 1) ∧ J ys W') ∨ (∃ pre, True ∧ Jx pre W')) := by
 refine callsIn_of_wp Tryz.func209 rfl trivial ?_ rfl;simp only [Tryz.ntmps209, List.size_toArray, List.length_cons, List.length_nil, Nat.reduceAdd, Nat.reduceSub, Array.replicate_succ, Array.replicate_zero, List.push_toArray, List.append_toArray, List.nil_append, List.cons_append];have hwf : ∀ f, Fence.wide.fn f := fun _ => trivial;have hwd : Fence.wide.depth = none := rfl;obtain ⟨va, vc, rfl, hvc, hvm, hx⟩ := kJ hv;have HX := zA hx;have HY := zA hY;have HOK := zA hok;have HJA := zA hJ;have HBK := zA (And.intro hD (And.intro hA hB));obtain ⟨p1, f1⟩ := blk hD;obtain ⟨p2, f2⟩ := blk hA;obtain ⟨p3, f3⟩ := blk hB;unfold maxLen at hvm;clear hx hv hY hok hJ hD hA hB
 gi_wp2_with fail
 clear p1 f1 p2 f2 p3 f3
 gi_loopw [5, 6, 7] (fun z _ _ wr => ∃ (k : Nat) (pre : List (RowX d)), i ≤ k ∧ k ≤ j + 1 ∧ pre.length ≤ k ∧ z = .int .i64 k ∧ Hid (pre.map (·.1) = kE d i p j q k) ∧ J pre wr ∧ Below w0.heap.size w0 wr ∧ Hid (wr.heap[Bd]? = some (.cells #[.slice va d.length vc] 22) ∧ wr.heap[Ba]? = some (.cells #[.int .i64 i, .int .i64 p] 24) ∧ wr.heap[Bb]? = some (.cells #[.int .i64 j, .int .i64 q] 24)) ∧ W.heap.size ≤ wr.heap.size)
  (fun z _ _ _ => j + 1 - (intOf z).toNat)
 case atStart => exact ⟨i, [], zC _, by omega, Nat.zero_le _, rfl, zA (zCg ..).symm, h0, hb0, HBK, zC _⟩
 case round =>
  obtain ⟨k, pre, hk1, hk2, hpl, rfl, HP, hJs, hb1, HBL, hz1⟩ := hrel;obtain ⟨p1, f1⟩ := blk HBL.out.1;obtain ⟨p2, f2⟩ := blk HBL.out.2.1;obtain ⟨p3, f3⟩ := blk HBL.out.2.2
  by_cases hlt : k ≤ j
  ·obtain ⟨l0, hl0, _⟩ := jJ d k qE
   obtain ⟨b, o, la, lc, ca, cc, rfl, hAk⟩ := HX.out k l0 hl0;obtain ⟨_, c0, c1, c2, c3, _, _⟩ := hAk.below hb1;have HL0 := zA (zCs d (i := i) (p := p) (j := j) (q := q) hl0);have hd1 : Below wr.heap.size wr wr.drew := (Below.refl _ _).drew;have HD1 := zA hd1;have HJ1 := zA (zAR (X := wr) (Y := wr.drew) HJA.out hJs hd1);have i0 : (0 : Int) ≤ (k : Int) := Int.natCast_nonneg _;have i1 : (k : Int) < (d.length : Int) := by omega
   have hNext : ∀ w7, J (pre ++ [⟨rowB d i p j q k, HOK.out k hk1 hlt⟩]) w7 → Kb w0.heap.size base top wr.drew w7 → ∃ (k' : Nat) (pre : List (RowX d)), i ≤ k' ∧ k' ≤ j + 1 ∧ pre.length ≤ k' ∧ k' = k + 1 ∧ Hid (pre.map (·.1) = kE d i p j q k') ∧ J pre w7 ∧ Below w0.heap.size w0 w7 ∧ Hid (w7.heap[Bd]? = some (.cells #[.slice (some ⟨b, o, none⟩) d.length vc] 22) ∧ w7.heap[Ba]? = some (.cells #[.int .i64 i, .int .i64 p] 24) ∧ w7.heap[Bb]? = some (.cells #[.int .i64 j, .int .i64 q] 24)) ∧ W.heap.size ≤ w7.heap.size := by
    intro w7 hj7 hk7;refine ⟨k + 1, _, by omega, by omega, by simp; omega, rfl, zA ?_, hj7, (jH hb1 HD1.out).trans hk7.below, zA ⟨hk7.cells _ _ hbase.1 htop.1 HBL.out.1 rfl, hk7.cells _ _ hbase.2.1 htop.2.1 HBL.out.2.1 rfl, hk7.cells _ _ hbase.2.2 htop.2.2 HBL.out.2.2 rfl⟩, Nat.le_trans hz1 hk7.below.size⟩;rw [zCc d hk1, List.map_append, HP.out]
    rfl
   have HNX := zA hNext;have hYY := HY.out pre ⟨rowB d i p j q k, HOK.out k hk1 hlt⟩ wr.drew HJ1.out qE;have hrow : zAd (⟨rowB d i p j q k, HOK.out k hk1 hlt⟩ : RowX d) = #[.int .i64 k, .agg #[.int .i64 ((if k = i then p else 0 : Nat) : Int), .int .i64 ((if k = j then q else l0.cells.length : Nat) : Int)]] := by unfold zAd; simp only [HL0.out]
   rw [hrow] at hYY;clear hAk hl0 hNext hJs HJ1 HL0 hrow;rcases (show k = i ∧ k = j ∨ k = i ∧ ¬ k = j ∨ ¬ k = i ∧ k = j ∨ ¬ k = i ∧ ¬ k = j by omega) with ⟨e1, e2⟩ | ⟨e1, e2⟩ | ⟨e1, e2⟩ | ⟨e1, e2⟩
   ·rw [if_pos e1, if_pos e2] at hYY
    have hq1 : ((k : Int) == (i : Int)) = true := by simp; omega
    have hq2 : ((k : Int) == (j : Int)) = true := by simp; omega
    have hq3 : decide ((k : Int) ≤ (j : Int)) = true := by simp; omega
    try rw [show ((0 : Nat) : Int) = 0 from rfl] at hYY
    obtain ⟨fn, tmps, assign, body, hy, hR⟩ := hYY;clear e1 e2
    gi_wp2_with fail
    gi_region
    gi_wp2_with fail
    refine hR.mono ?_;rintro e w7 (⟨rfl, hJ7, hk7⟩ | ⟨rfl, hJx7⟩)
    ·gi_wp2_with fail
     obtain ⟨k', pre', g1, g2, g3, e3, g4, g5, g6, g7, g8⟩ := HNX.out w7 hJ7 hk7;go_roundw
     case rel => exact ⟨k', pre', g1, g2, g3, by rw [e3]; go_num, g4, g5, g6, g7, g8⟩
     case measure => simp [intOf]; omega
    ·gi_wp2_with fail
     refine zM (results_none rfl _ _ _) rfl ?_;exact ⟨⟨_, rfl⟩, .inr ⟨_, trivial, hJx7⟩⟩
   ·rw [if_pos e1, if_neg e2] at hYY
    have hq1 : ((k : Int) == (i : Int)) = true := by simp; omega
    have hq2 : ((k : Int) == (j : Int)) = false := by simp; omega
    have hq3 : decide ((k : Int) ≤ (j : Int)) = true := by simp; omega
    try rw [show ((0 : Nat) : Int) = 0 from rfl] at hYY
    obtain ⟨fn, tmps, assign, body, hy, hR⟩ := hYY;clear e1 e2
    gi_wp2_with fail
    gi_region
    gi_wp2_with fail
    refine hR.mono ?_;rintro e w7 (⟨rfl, hJ7, hk7⟩ | ⟨rfl, hJx7⟩)
    ·gi_wp2_with fail
     obtain ⟨k', pre', g1, g2, g3, e3, g4, g5, g6, g7, g8⟩ := HNX.out w7 hJ7 hk7;go_roundw
     case rel => exact ⟨k', pre', g1, g2, g3, by rw [e3]; go_num, g4, g5, g6, g7, g8⟩
     case measure => simp [intOf]; omega
    ·gi_wp2_with fail
     refine zM (results_none rfl _ _ _) rfl ?_;exact ⟨⟨_, rfl⟩, .inr ⟨_, trivial, hJx7⟩⟩
   ·rw [if_neg e1, if_pos e2] at hYY
    have hq1 : ((k : Int) == (i : Int)) = false := by simp; omega
    have hq2 : ((k : Int) == (j : Int)) = true := by simp; omega
    have hq3 : decide ((k : Int) ≤ (j : Int)) = true := by simp; omega
    try rw [show ((0 : Nat) : Int) = 0 from rfl] at hYY
    obtain ⟨fn, tmps, assign, body, hy, hR⟩ := hYY;clear e1 e2
    gi_wp2_with fail
    gi_region
    gi_wp2_with fail
    refine hR.mono ?_;rintro e w7 (⟨rfl, hJ7, hk7⟩ | ⟨rfl, hJx7⟩)
    ·gi_wp2_with fail
     obtain ⟨k', pre', g1, g2, g3, e3, g4, g5, g6, g7, g8⟩ := HNX.out w7 hJ7 hk7;go_roundw
     case rel => exact ⟨k', pre', g1, g2, g3, by rw [e3]; go_num, g4, g5, g6, g7, g8⟩
     case measure => simp [intOf]; omega
    ·gi_wp2_with fail
     refine zM (results_none rfl _ _ _) rfl ?_;exact ⟨⟨_, rfl⟩, .inr ⟨_, trivial, hJx7⟩⟩
   ·rw [if_neg e1, if_neg e2] at hYY
    have hq1 : ((k : Int) == (i : Int)) = false := by simp; omega
    have hq2 : ((k : Int) == (j : Int)) = false := by simp; omega
    have hq3 : decide ((k : Int) ≤ (j : Int)) = true := by simp; omega
    try rw [show ((0 : Nat) : Int) = 0 from rfl] at hYY
    obtain ⟨fn, tmps, assign, body, hy, hR⟩ := hYY;clear e1 e2
    gi_wp2_with fail
    gi_region
    gi_wp2_with fail
    refine hR.mono ?_;rintro e w7 (⟨rfl, hJ7, hk7⟩ | ⟨rfl, hJx7⟩)
    ·gi_wp2_with fail
     obtain ⟨k', pre', g1, g2, g3, e3, g4, g5, g6, g7, g8⟩ := HNX.out w7 hJ7 hk7;go_roundw
     case rel => exact ⟨k', pre', g1, g2, g3, by rw [e3]; go_num, g4, g5, g6, g7, g8⟩
     case measure => simp [intOf]; omega
    ·gi_wp2_with fail
     refine zM (results_none rfl _ _ _) rfl ?_;exact ⟨⟨_, rfl⟩, .inr ⟨_, trivial, hJx7⟩⟩
  ·obtain rfl : k = j + 1 := by omega
   gi_wp2_with fail
   go_end0;exact ⟨⟨_, rfl⟩, .inl ⟨pre, HP.out, hJs⟩⟩
theorem zEn {F : Fence} {m : Nat} {P : Program} (w : World) {ops : Array Oper} {rest : List Oper} {o : Oper} {a : Act} {Q : Exit → Act → World → Prop} (hgd : o.guard = none) (s x : Operand) (st tx : TypeId)
  (ho : o.op = .call { callee := .builtin .append, args := #[s, x], argTypes := #[st, tx] }) {t : TypeId} {k : Nat} (hT : RowT P st t k) {α : Type} {R : Rd α} (hE : Elt t k R) (n : Nat) (v y : Value) {xs ys : List α} {news : List Value} (hs : a.eval s = v) (hx : a.eval x = y)
  (h1 : SliceR t k R true w (fun b => n ≤ b) v xs) (hn : n ≤ w.heap.size) (hsrc : Src P k tx y ys.length news w) (hnew : NewsR k R w (fun b => n ≤ b) news ys) (hlen : xs.length + ys.length ≤ 100000000)
  (h : ∀ v' w', SliceR t k R true w' (fun b => n ≤ b) v' (xs ++ ys) → Below n w w' → w.grownBy w' v.ownBlock → (v'.ownBlock = v.ownBlock ∨ v'.ownBlock = some w.heap.size) → wpListIn F m P ops Q rest (a.put o.dst v') w') :
  wpListIn F m P ops Q (o :: rest) a w := by
 refine wpListIn_plain hgd fun K hK => ?_;obtain ⟨v', w', hr, h2, h3, h4, h5⟩ := zCw (P := P) (ty := o.type) hT hE h1 hn hsrc hnew hlen;unfold Oper.wpIn;refine ⟨?_, ?_⟩
 ·simp [Oper.about, ho, resolve, Target.leads, Sem.run_pure]
 ·rw [Oper.semAt_plain F _ _ (by rw [ho]; intro c hc'; cases hc')]
  simp [execOp, ho, resolve, invoke, builtin, hs, hx, hr, Result.andThen];exact hK _ _ (h v' w' h2 h3 h4 h5)
theorem zET {α : Type} {t : TypeId} {k : Nat} {R : Rd α} {w w' : World} {S : Nat → Prop} {v : Value} {xs : List α} (h : SliceR t k R true w S v xs) (hne : v = .slice none 0 0 ∨ xs ≠ []) (hg : w.grownBy w' v.ownBlock) : KeepsOthers w w' :=
 KeepsOthers.of_grownBy hg fun j o ej hj => by
  obtain ⟨a, c, rfl, _, _, hx⟩ := h;rcases hx with ⟨rfl, hc0⟩ | ⟨b, o', rfl, _, _, hf, _⟩
  ·rcases hne with e | e
   ·cases e
    cases ej
   ·exact absurd rfl e
  ·obtain ⟨cs, h1, _⟩ := hf rfl
   have ej : some b = some j := ej;cases ej;rw [h1] at hj;cases hj
   rfl
end Go.Proofs.YtjgeadoncanheaaGreatDoor
