/- The walks of doc.Set, doc.Link. -/
import Derived.Test.YtcliojeoindceaaGreatDoorDocEachS
import Derived.Test.YtcliojeoindceaaGreatDoorDocDeleteS
import Derived.Test.YtcliojeoindceaaGreatDoorRefLongS
import Derived.Deep.RegionHeld3
import Derived.Deep.DrawnRows
import Derived.Deep.Cut
import Derived.Deep.CutRange
import Derived.Test.YtcliojeoindceaaGreatDoorAttrWalkS
set_option linter.unusedVariables false
set_option linter.unusedSimpArgs false
set_option maxHeartbeats 8000000
namespace Go.Proofs.YtcliojeoindceaaGreatDoor
open Go.RowKit
open Go.Proofs.Qw
open _root_.Go.Lib renaming hid → zA
open _root_.Go.Proofs.Tryz renaming prog → zV
open _root_.Go.Proofs.Qw renaming rdLin_stable → qB
theorem DocSaid.from {x : Doc × Int} {w W : World} {e : Ending} {w' : World} (h : DocSaid x W e w') (hb : Below w.heap.size w W) : DocSaid x w e w' := by
 obtain ⟨v', h1, h2, h3⟩ := h
 exact ⟨v', h1, SliceR.stable (qB true) h2 (Keeps.refl _ _) (fun b h _ => Nat.le_trans hb.size h), below_from hb h3⟩
theorem eachC_ok {F : Cel → Cel} {cs : List Cel} {i j : Nat} (hij : i ≤ j) (hj : j ≤ cs.length) : eachC F cs i j = (mapIn F i j cs, 0) := by
 unfold eachC spanC
 rw [if_pos (by simp; omega)]
 simp
theorem docSet1_any (v : Value) (cs : List Cel) (i j s c : Int) (b1 b2 : Nat) (w : World) (S : Nat → Prop) (own : Bool) (h : CelsR own w S v cs) (hs : cs.length ≤ 1000000) (h1 : w.heap[b1]? = some (.cells #[.int .i64 s] 3)) (h2 : w.heap[b2]? = some (.cells #[.int .i64 c] 3)) :
  Calls zV 249 #[v, .int .i64 i, .int .i64 j, .pointer (some ⟨b1, 0, none⟩), .pointer (some ⟨b2, 0, none⟩)] w (CellsSaid (eachC (setBits s c) cs i j).1 (eachC (setBits s c) cs i j).2 w) := by
 have HC := zA (cellsSet_any v cs i j s c w S own h hs)
 obtain ⟨a, cc, rfl⟩ := h.slice
 obtain ⟨p1, f1⟩ := blk h1
 obtain ⟨p2, f2⟩ := blk h2
 generalize eachC (setBits s c) cs i j = r at *
 clear h h1 h2
 go_enter Tryz.func249, Tryz.ntmps249
 go_wp2_with (go_at_call 250; refine HC.out.mono ?_; intro e w2 hsaid; obtain ⟨v', rfl, hv', hb'⟩ := hsaid)
 go_ret2
 exact ⟨_, rfl, hv', hb'⟩
theorem docLink1_any (v : Value) (cs : List Cel) (i j : Int) (hr : List UInt8) (b1 : Nat) (w : World) (S : Nat → Prop) (own : Bool) (h : CelsR own w S v cs) (hs : cs.length ≤ 1000000) (he : EnvT w) (hh : hr.length ≤ 1000000) (h1 : w.heap[b1]? = some (.cells #[.string ⟨hr.toArray⟩] 9)) :
  Calls zV 247 #[v, .int .i64 i, .int .i64 j, .pointer (some ⟨b1, 0, none⟩)] w (CellsSaid (linkC hr cs i j).1 (linkC hr cs i j).2 w) := by
 have HC := zA (cellsLink_any v cs i j hr w S own h hs he hh)
 obtain ⟨a, cc, rfl⟩ := h.slice
 obtain ⟨p1, f1⟩ := blk h1
 generalize linkC hr cs i j = r at *
 clear h h1 he hh
 go_enter Tryz.func247, Tryz.ntmps247
 go_wp2_with (go_at_call 248; refine HC.out.mono ?_; intro e w2 hsaid; obtain ⟨v', rfl, hv', hb'⟩ := hsaid)
 go_ret2
 exact ⟨_, rfl, hv', hb'⟩
def setD (s c : Int) (d : Doc) (a b : Ps) : Doc × Int := eachD (fun cs i j => mapIn (setBits s c) i j cs) d a b
set_option maxRecDepth 100000 in
theorem docSet_any (v : Value) (d : Doc) (a b : Ps) (s c : Int) (w : World) (S : Nat → Prop) (h : LinsR w S v d) (he : EnvT w) (hs : Small d) (hf : Fits d) :
  Calls zV 162 #[v, posV a, posV b, .int .i64 s, .int .i64 c] w (DocSaid (setD s c d a b) w) := by
 obtain ⟨W1, hW1⟩ : ∃ W1, (((w.alloc (.cells #[.int .i64 a.line, .int .i64 a.col] 24)).alloc (.cells #[.int .i64 b.line, .int .i64 b.col] 24)).alloc (.cells #[.int .i64 s] 3)).alloc (.cells #[.int .i64 c] 3) = W1 := ⟨_, rfl⟩
 have hB : Below w.heap.size w W1 := hW1 ▸ ((((Below.refl _ _).alloc (Nat.le_refl _) _).alloc (by simp) _).alloc (by simp; omega) _).alloc (by simp; omega) _
 have k0 : W1.heap[w.heap.size]? = some (.cells #[.int .i64 a.line, .int .i64 a.col] 24) := hW1 ▸ heap_old _ _ (heap_old _ _ (heap_old _ _ (heap_new _ _ rfl)))
 have k1 : W1.heap[w.heap.size + 1]? = some (.cells #[.int .i64 b.line, .int .i64 b.col] 24) := hW1 ▸ heap_old _ _ (heap_old _ _ (heap_new _ _ (by simp)))
 have k2 : W1.heap[w.heap.size + 2]? = some (.cells #[.int .i64 s] 3) := hW1 ▸ heap_old _ _ (heap_new _ _ (by simp))
 have k3 : W1.heap[w.heap.size + 3]? = some (.cells #[.int .i64 c] 3) := hW1 ▸ heap_new _ _ (by simp)
 have HC := zA (docEach_any v d a b 249 #[.pointer (some ⟨w.heap.size + 2, 0, none⟩), .pointer (some ⟨w.heap.size + 3, 0, none⟩)] (fun cs i j => mapIn (setBits s c) i j cs) W1 S (h.below (qB _) hB) (he.below hB) hs hf (fun c i j => mapIn_length _ _ _ _)
  (enters_of Tryz.func249 (by kernel_rfl) rfl) (fun W v cs i j hW hv hij hj hl => by
   have := docSet1_any v cs i j s c (w.heap.size + 2) (w.heap.size + 3) W _ true hv hl (heap_below hW k2) (heap_below hW k3)
   rw [eachC_ok hij hj] at this
   exact this))
 have HP : Hid (∀ p : Ps, posV p = .agg #[.int .i64 p.line, .int .i64 p.col]) := zA fun _ => rfl
 have HR : Hid (setD s c d a b = eachD (fun cs i j => mapIn (setBits s c) i j cs) d a b) := zA rfl
 have H1 := zA hB
 obtain ⟨p1, f1⟩ := blk k0
 obtain ⟨p2, f2⟩ := blk k1
 obtain ⟨va, vc, rfl⟩ := h.slice
 generalize eachD (fun cs i j => mapIn (setBits s c) i j cs) d a b = r at *
 clear h he hs hf k0 k1 k2 k3 hB
 rw [HP.out a, HP.out b] at HC ⊢
 go_enter Tryz.func162, Tryz.ntmps162
 go_wp2_with (go_at_call 246; refine HC.out.mono ?_; intro e w2 hsaid; have hsaid := DocSaid.from hsaid H1.out; obtain ⟨v', rfl, hv', hb'⟩ := hsaid)
 go_ret2
 rw [HR.out]
 exact ⟨_, rfl, hv', hb'⟩
def linkD (hr : List UInt8) (d : Doc) (a b : Ps) : Doc × Int := if linkF hr = true then eachD (fun cs i j => mapIn (setHref hr) i j cs) d a b else ([], 1)
set_option maxRecDepth 100000 in
theorem docLink_any (v : Value) (d : Doc) (a b : Ps) (hr : List UInt8) (w : World) (S : Nat → Prop) (h : LinsR w S v d) (he : EnvT w) (hs : Small d) (hf : Fits d) (hh : hr.length ≤ 1000000) :
  Calls zV 159 #[v, posV a, posV b, .string ⟨hr.toArray⟩] w (DocSaid (linkD hr d a b) w) := by
 obtain ⟨W1, hW1, hB, hz, k0, k1, k2⟩ := three_blocks w (.int .i64 a.line) (.int .i64 a.col) (.int .i64 b.line) (.int .i64 b.col) (.string ⟨hr.toArray⟩) 9
 have HB : Hid (∀ W, Below W1.heap.size W1 W → W.heap[w.heap.size]? = some (.cells #[.int .i64 a.line, .int .i64 a.col] 24) ∧ W.heap[w.heap.size + 1]? = some (.cells #[.int .i64 b.line, .int .i64 b.col] 24)) := zA fun W hW => ⟨heap_below hW k0, heap_below hW k1⟩
 have HT : Hid (Calls zV 158 #[.string ⟨hr.toArray⟩] W1 fun e w' => e = .returned (.bool (targetF hr)) ∧ Below W1.heap.size W1 w') := zA (target_any ⟨hr.toArray⟩ W1 (he.below hB) (by show hr.toArray.size ≤ _; simpa using hh))
 have HC : Hid (linkF hr = true → ∀ W, Below W1.heap.size W1 W → Calls zV 246 #[v, posV a, posV b, .func (.func 247) #[] #[.pointer (some ⟨w.heap.size + 2, 0, none⟩)]] W (DocSaid (eachD (fun cs i j => mapIn (setHref hr) i j cs) d a b) W)) := zA fun hlk W hW =>
  docEach_any v d a b 247 #[.pointer (some ⟨w.heap.size + 2, 0, none⟩)] (fun cs i j => mapIn (setHref hr) i j cs) W S ((h.below (qB _) hB).below (qB _) hW) ((he.below hB).below hW) hs hf (fun c i j => mapIn_length _ _ _ _)
   (enters_of Tryz.func247 (by kernel_rfl) rfl) (fun X v cs i j hX hv hij hj hl => by
    have := docLink1_any v cs i j hr (w.heap.size + 2) X _ true hv hl (((he.below hB).below hW).below hX) hh (heap_below hX (heap_below hW k2))
    unfold linkC at this
    rw [if_pos hlk, eachC_ok hij hj] at this
    exact this)
 have HP : Hid (∀ p : Ps, posV p = .agg #[.int .i64 p.line, .int .i64 p.col]) := zA fun _ => rfl
 have HR : Hid (linkD hr d a b = if linkF hr = true then eachD (fun cs i j => mapIn (setHref hr) i j cs) d a b else ([], 1)) := zA rfl
 have HL : Hid (linkF hr = (decide (hr = []) || targetF hr)) := zA rfl
 have H1 := zA hB
 have hs1 := hB.size
 have hw1 : Below W1.heap.size W1 W1 := Below.refl _ _
 obtain ⟨p1, f1⟩ := blk k0
 obtain ⟨p2, f2⟩ := blk k1
 obtain ⟨p3, f3⟩ := blk k2
 obtain ⟨va, vc, rfl⟩ := h.slice
 generalize eachD (fun cs i j => mapIn (setHref hr) i j cs) d a b = r at *
 clear h he hs hf k0 k1 k2 hB hh
 rw [HP.out a, HP.out b] at HC ⊢
 by_cases hn : hr = []
 ·have HC := zA (HC.out (by rw [HL.out, decide_eq_true hn]; rfl))
  have HR : Hid (linkD hr d a b = r) := zA (HR.out.trans (if_pos (by rw [HL.out, decide_eq_true hn]; rfl)))
  have hne : hr.isEmpty = true := by simpa using hn
  clear hn
  go_enter Tryz.func159, Tryz.ntmps159
  go_wp2_with (go_at_call 246; refine (HC.out _ hw1).mono ?_; intro e w2 hsaid; have hsaid := DocSaid.from hsaid H1.out; obtain ⟨v', rfl, hv', hb'⟩ := hsaid)
  go_ret2
  rw [HR.out]
  exact ⟨_, rfl, hv', hb'⟩
 ·have hne : hr.isEmpty = false := by simpa using hn
  cases htg : targetF hr
  ·have HR : Hid (linkD hr d a b = ([], 1)) := zA (HR.out.trans (if_neg (by rw [HL.out, decide_eq_false hn, htg]; simp)))
   rw [htg] at HT
   clear htg
   go_enter Tryz.func159, Tryz.ntmps159
   go_wp2_with (go_at_call 158; refine HT.out.mono ?_; rintro e w2 ⟨rfl, hb2⟩)
   go_ret2
   unfold DocSaid
   rw [HR.out]
   exact ⟨_, rfl, SliceR.nil _ _ _ _ _ _, H1.out.trans (hb2.mono hs1)⟩
  ·have hlk : linkF hr = true := by rw [HL.out, htg]; simp
   have HC := zA (HC.out hlk)
   have HR : Hid (linkD hr d a b = r) := zA (HR.out.trans (if_pos hlk))
   rw [htg] at HT
   clear htg hlk
   go_enter Tryz.func159, Tryz.ntmps159
   go_wp2_with (first | (go_at_call 158; refine HT.out.mono ?_; rintro e w2 ⟨rfl, hb2⟩; obtain ⟨q1, g1⟩ := blk (HB.out _ hb2).1; obtain ⟨q2, g2⟩ := blk (HB.out _ hb2).2) | (go_at_call 246; refine (HC.out _ hb2).mono ?_; intro e w3 hsaid; have hsaid := DocSaid.from hsaid (H1.out.trans (hb2.mono hs1)); obtain ⟨v', rfl, hv', hb'⟩ := hsaid))
   go_ret2
   rw [HR.out]
   exact ⟨_, rfl, hv', hb'⟩
end Go.Proofs.YtcliojeoindceaaGreatDoor
namespace Go.Proofs.Qw
open Go.RowKit Go.Proofs.YtcliojeoindceaaGreatDoor
structure St where
 lines : Doc
 anc : Ps
 foc : Ps
 on : Int
 off : Int
 deriving DecidableEq, Inhabited
def noS : St := ⟨[], ⟨0, 0⟩, ⟨0, 0⟩, 0, 0⟩
def mayS (s : St) : Bool := mayD s.lines && (isD s.lines s.anc && (isD s.lines s.foc && (bits .andNot .i64 s.on 15 == 0 && (bits .andNot .i64 s.off 15 == 0 && bits .and .i64 s.on s.off == 0))))
def spanS (s : St) : Ps × Ps := if 0 < cmpP s.anc s.foc then (s.foc, s.anc) else (s.anc, s.foc)
abbrev stV (v : Value) (s : St) : Value := .agg #[v, .int .i64 s.anc.line, .int .i64 s.anc.col, .int .i64 s.foc.line, .int .i64 s.foc.col, .int .i64 s.on, .int .i64 s.off]
theorem one_st (w : World) (v : Value) (s : St) : ∃ W1, w.alloc (.cells #[v, .int .i64 s.anc.line, .int .i64 s.anc.col, .int .i64 s.foc.line, .int .i64 s.foc.col, .int .i64 s.on, .int .i64 s.off] 26) = W1 ∧ Below w.heap.size w W1 ∧ w.heap.size + 1 = W1.heap.size ∧
  W1.heap[w.heap.size]? = some (.cells #[v, .int .i64 s.anc.line, .int .i64 s.anc.col, .int .i64 s.foc.line, .int .i64 s.foc.col, .int .i64 s.on, .int .i64 s.off] 26) :=
 ⟨_, rfl, (Below.refl _ _).alloc (Nat.le_refl _) _, by simp, heap_new _ _ rfl⟩
def StSaid (x : St × Int) (w : World) (e : Ending) (w' : World) : Prop := ∃ v', e = .returned (.tuple #[stV v' x.1, .int .i64 x.2]) ∧ DocR true w' (fun b => w.heap.size ≤ b) v' x.1.lines ∧ Below w.heap.size w w'
theorem StSaid.from {x : St × Int} {w W : World} {e : Ending} {w' : World} (h : StSaid x W e w') (hb : Below w.heap.size w W) : StSaid x w e w' := by
 obtain ⟨v', h1, h2, h3⟩ := h
 exact ⟨v', h1, SliceR.stable (rdLin_stable true) h2 (Keeps.refl _ _) (fun b h _ => Nat.le_trans hb.size h), below_from hb h3⟩
theorem below1 {w W : World} (h : Below w.heap.size w W) (X : Obj) : Below w.heap.size w (W.alloc X) := h.alloc h.size X
theorem below2 {w W : World} (h : Below w.heap.size w W) (X Y : Obj) : Below w.heap.size w ((W.alloc X).alloc Y) := below1 (below1 h X) Y
theorem below3 {w W : World} (h : Below w.heap.size w W) (X Y Z : Obj) : Below w.heap.size w (((W.alloc X).alloc Y).alloc Z) := below1 (below2 h X Y) Z
theorem on1 {w : World} {B : Nat} {cs : Array Value} {t : TypeId} (h : w.heap[B]? = some (.cells cs t)) : ∀ X k, (w.alloc X).cell? ⟨B, k, none⟩ = cs[k]? := fun X _ => cell_of_heap (heap_old _ X h)
theorem on2 {w : World} {B : Nat} {cs : Array Value} {t : TypeId} (h : w.heap[B]? = some (.cells cs t)) : ∀ X Y k, ((w.alloc X).alloc Y).cell? ⟨B, k, none⟩ = cs[k]? := fun X Y _ => cell_of_heap (heap_old _ Y (heap_old _ X h))
theorem cmpP_lt (a b : Ps) : (0 < cmpP a b) = (cmpP b a < 0) := by
 obtain ⟨a, c⟩ := a
 obtain ⟨b, d⟩ := b
 simp only [cmpP, cmpI, eq_iff_iff, ne_eq]
 split <;> split <;> (try split) <;> (try split) <;> (try split) <;> (try split) <;> simp_all <;> omega
theorem bits_small (x : Int) (hx : -9223372036854775808 ≤ x ∧ x ≤ 9223372036854775807) : (bits .andNot .i64 x 15 == 0) = (decide (0 ≤ x) && decide (x ≤ 15)) := by
 by_cases h : 0 ≤ x ∧ x ≤ 15
 ·obtain ⟨n, rfl⟩ := Int.eq_ofNat_of_zero_le h.1
  have H : ∀ n : Fin 16, (bits .andNot .i64 (n.val : Int) 15 == 0) = true := by decide +kernel
  have h1 := H ⟨n, by omega⟩
  simp only at h1
  rw [h1, decide_eq_true h.1, decide_eq_true h.2]
  rfl
 ·have hne : bits .andNot .i64 x 15 ≠ 0 := by
   intro e
   unfold bits at e
   simp only at e
   have hz : (BitVec.ofInt 64 x &&& ~~~BitVec.ofInt 64 15).toNat = 0 := by
    have hlt := (BitVec.ofInt 64 x &&& ~~~BitVec.ofInt 64 15).isLt
    have e' : IntKind.i64.wrap ((BitVec.ofInt 64 x &&& ~~~BitVec.ofInt 64 15).toNat : Int) = 0 := e
    generalize (BitVec.ofInt 64 x &&& ~~~BitVec.ofInt 64 15).toNat = m at e' hlt
    have e2 : (if (true && decide ((m : Int) % 2 ^ 64 ≥ 2 ^ 63)) = true then (m : Int) % 2 ^ 64 - 2 ^ 64 else (m : Int) % 2 ^ 64) = 0 := e'
    simp only [Bool.true_and, decide_eq_true_eq] at e2
    split at e2 <;> omega
   have hz2 : BitVec.ofInt 64 x &&& ~~~BitVec.ofInt 64 15 = 0#64 := BitVec.eq_of_toNat_eq (by simpa using hz)
   have h3 : BitVec.ofInt 64 x = BitVec.ofInt 64 x &&& BitVec.ofInt 64 15 := by
    clear hz e
    generalize BitVec.ofInt 64 15 = c at *
    apply BitVec.eq_of_getLsbD_eq
    intro i hi
    have := congrArg (fun v => v.getLsbD i) hz2
    simp [hi] at this
    simp only [BitVec.getLsbD_and]
    cases ha : (BitVec.ofInt 64 x).getLsbD i
    ·rfl
    ·simp [ha] at this ⊢
     exact this
   have h4 : (BitVec.ofInt 64 x).toNat ≤ 15 := by
    rw [h3, BitVec.toNat_and]
    exact Nat.le_trans Nat.and_le_right (by decide)
   rw [BitVec.toNat_ofInt] at h4
   omega
  rw [beq_eq_false_iff_ne.2 hne]
  by_cases h0 : 0 ≤ x
  ·rw [decide_eq_true h0, decide_eq_false (fun h1 => h ⟨h0, h1⟩)]; rfl
  ·rw [decide_eq_false h0]; rfl
end Go.Proofs.Qw
namespace Go.Proofs.YtcliojeoindceaaGreatDoor
open Go.RowKit
open Go.Proofs.Qw
open _root_.Nat renaming le_refl → zC
theorem results_two_pos {fn : Func} {p u : Tmp} (h : fn.results = #[.cell p 24, .cell u 24]) (tmps : Array Value) (w : World) (B C : Nat) (a b c d : Value) (hp : tmps.getD p undef = .pointer (some ⟨B, 0, none⟩)) (hu : tmps.getD u undef = .pointer (some ⟨C, 0, none⟩))
  (h1 : w.heap[B]? = some (.cells #[a, b] 24)) (h2 : w.heap[C]? = some (.cells #[c, d] 24)) : (results fn tmps).run Tryz.prog w = .ok (.tuple #[.agg #[a, b], .agg #[c, d]]) w := by
 have hp' : tmps[p]?.getD undef = .pointer (some ⟨B, 0, none⟩) := by simpa using hp
 have hu' : tmps[u]?.getD undef = .pointer (some ⟨C, 0, none⟩) := by simpa using hu
 have e1 := run_loadVar_row (P := Tryz.prog) w B 24 24 _ _ _ h1 Tryz.underlying24 rfl (by kernel_rfl)
 have e2 := run_loadVar_row (P := Tryz.prog) w C 24 24 _ _ _ h2 Tryz.underlying24 rfl (by kernel_rfl)
 simp [results, h, hp', hu', asAddr, e1, e2]
theorem results_st {fn : Func} {p : Tmp} (h : fn.results = #[.cell p 26]) (tmps : Array Value) (w : World) (B : Nat) (a b c d e f g : Value) (hp : tmps.getD p undef = .pointer (some ⟨B, 0, none⟩)) (hg : w.heap[B]? = some (.cells #[a, b, c, d, e, f, g] 26)) :
  (results fn tmps).run Tryz.prog w = .ok (.agg #[a, b, c, d, e, f, g]) w :=
 results_cell_row h tmps w B _ _ _ _ hp hg Tryz.underlying26 rfl (by kernel_rfl)
theorem st_pos2 (w : World) (v : Value) (s : St) : ∃ W1, ((w.alloc (.cells #[v, .int .i64 s.anc.line, .int .i64 s.anc.col, .int .i64 s.foc.line, .int .i64 s.foc.col, .int .i64 s.on, .int .i64 s.off] 26)).alloc (.cells #[.int .i64 0, .int .i64 0] 24)).alloc (.cells #[.int .i64 0, .int .i64 0] 24) = W1 ∧ Below w.heap.size w W1 ∧ w.heap.size + 3 = W1.heap.size ∧
  W1.heap[w.heap.size]? = some (.cells #[v, .int .i64 s.anc.line, .int .i64 s.anc.col, .int .i64 s.foc.line, .int .i64 s.foc.col, .int .i64 s.on, .int .i64 s.off] 26) ∧ W1.heap[w.heap.size + 1]? = some (.cells #[.int .i64 0, .int .i64 0] 24) ∧ W1.heap[w.heap.size + 2]? = some (.cells #[.int .i64 0, .int .i64 0] 24) :=
 ⟨_, rfl, (((Below.refl _ _).alloc (zC _) _).alloc (by simp) _).alloc (by simp; omega) _, by simp, heap_old _ _ (heap_old _ _ (heap_new _ _ rfl)), heap_old _ _ (heap_new _ _ (by simp)), heap_new _ _ (by simp)⟩
theorem st_two (w : World) (v : Value) (s : St) : ∃ W1, (w.alloc (.cells #[v, .int .i64 s.anc.line, .int .i64 s.anc.col, .int .i64 s.foc.line, .int .i64 s.foc.col, .int .i64 s.on, .int .i64 s.off] 26)).alloc (.cells #[.slice none 0 0, .int .i64 0, .int .i64 0, .int .i64 0, .int .i64 0, .int .i64 0, .int .i64 0] 26) = W1 ∧ Below w.heap.size w W1 ∧ w.heap.size + 2 = W1.heap.size ∧
  W1.heap[w.heap.size]? = some (.cells #[v, .int .i64 s.anc.line, .int .i64 s.anc.col, .int .i64 s.foc.line, .int .i64 s.foc.col, .int .i64 s.on, .int .i64 s.off] 26) ∧ W1.heap[w.heap.size + 1]? = some (.cells #[.slice none 0 0, .int .i64 0, .int .i64 0, .int .i64 0, .int .i64 0, .int .i64 0, .int .i64 0] 26) :=
 ⟨_, rfl, ((Below.refl _ _).alloc (zC _) _).alloc (by simp) _, by simp, heap_old _ _ (heap_new _ _ rfl), heap_new _ _ (by simp)⟩
theorem st_both (w : World) (v u : Value) (s t : St) : ∃ W1, (w.alloc (.cells #[v, .int .i64 s.anc.line, .int .i64 s.anc.col, .int .i64 s.foc.line, .int .i64 s.foc.col, .int .i64 s.on, .int .i64 s.off] 26)).alloc (.cells #[u, .int .i64 t.anc.line, .int .i64 t.anc.col, .int .i64 t.foc.line, .int .i64 t.foc.col, .int .i64 t.on, .int .i64 t.off] 26) = W1 ∧ Below w.heap.size w W1 ∧ w.heap.size + 2 = W1.heap.size ∧
  W1.heap[w.heap.size]? = some (.cells #[v, .int .i64 s.anc.line, .int .i64 s.anc.col, .int .i64 s.foc.line, .int .i64 s.foc.col, .int .i64 s.on, .int .i64 s.off] 26) ∧ W1.heap[w.heap.size + 1]? = some (.cells #[u, .int .i64 t.anc.line, .int .i64 t.anc.col, .int .i64 t.foc.line, .int .i64 t.foc.col, .int .i64 t.on, .int .i64 t.off] 26) :=
 ⟨_, rfl, ((Below.refl _ _).alloc (zC _) _).alloc (by simp) _, by simp, heap_old _ _ (heap_new _ _ rfl), heap_new _ _ (by simp)⟩
end Go.Proofs.YtcliojeoindceaaGreatDoor
namespace Go.Proofs.Qw
open Go.RowKit Go.Proofs.YtcliojeoindceaaGreatDoor
open _root_.List renaming getElem?_eq_some_iff → zK
def aroundF (l : List Cel) (k : Nat) : Int × List UInt8 :=
 (if 0 < k then (l.getD (k - 1) default).bits else if k < l.length then (l.getD k default).bits else 0,
  if 0 < k ∧ k < l.length ∧ (l.getD (k - 1) default).href = (l.getD k default).href then (l.getD (k - 1) default).href else [])
def handF (l : List Cel) (k : Nat) : List UInt8 := if 0 < k ∧ (l.getD (k - 1) default).href ≠ [] then (l.getD (k - 1) default).href else if k < l.length then (l.getD k default).href else []
def backF (l : List Cel) (h : List UInt8) : Nat → Nat
 | 0 => 0
 | k + 1 => if (l.getD k default).href = h then backF l h k else k + 1
def forthF (l : List Cel) (h : List UInt8) (k : Nat) : Nat := k + ((l.drop k).takeWhile fun c => decide (c.href = h)).length
def withinF (l : List Cel) (k : Nat) : Nat × Nat := if handF l k = [] then (k, k) else (backF l (handF l k) k, forthF l (handF l k) k)
theorem forthF_on {l : List Cel} {h : List UInt8} {k : Nat} {c : Cel} (hc : l[k]? = some c) (e : c.href = h) : forthF l h k = forthF l h (k + 1) := by
 obtain ⟨hk, rfl⟩ := zK.1 hc
 unfold forthF
 rw [List.drop_eq_getElem_cons hk, List.takeWhile_cons_of_pos (by simpa using e), List.length_cons]
 omega
theorem forthF_off {l : List Cel} {h : List UInt8} {k : Nat} {c : Cel} (hc : l[k]? = some c) (e : c.href ≠ h) : forthF l h k = k := by
 obtain ⟨hk, rfl⟩ := zK.1 hc
 unfold forthF
 rw [List.drop_eq_getElem_cons hk, List.takeWhile_cons_of_neg (by simpa using e)]
 rfl
theorem forthF_end {l : List Cel} {h : List UInt8} {k : Nat} (hk : l.length ≤ k) : forthF l h k = k := by
 unfold forthF
 rw [List.drop_eq_nil_of_le hk]
 rfl
def aheadC (l : List Cel) : Nat → Option Cel
 | 0 => none
 | k + 1 => l[k]?
theorem aroundF_eq (l : List Cel) (k : Nat) (hk : k ≤ l.length) : aroundF l k = (match aheadC l k, l[k]? with | some a, _ => a.bits | none, some b => b.bits | none, none => 0, match aheadC l k, l[k]? with | some a, some b => if a.href = b.href then a.href else [] | _, _ => []) := by
 unfold aroundF
 cases k with
 | zero =>
  by_cases h : 0 < l.length
  ·obtain ⟨x, hx, _⟩ := getOf l 0 h
   simp [aheadC, hx, h, List.getD]
  ·have : l[0]? = none := List.getElem?_eq_none (by omega)
   simp [aheadC, this, h]
 | succ j =>
  obtain ⟨a, ha, _⟩ := getOf l j (by omega)
  by_cases h : j + 1 < l.length
  ·obtain ⟨b, hb, _⟩ := getOf l (j + 1) h
   simp [aheadC, ha, hb, h, List.getD]
  ·have : l[j + 1]? = none := List.getElem?_eq_none (by omega)
   simp [aheadC, ha, this, h, List.getD]
theorem handF_eq (l : List Cel) (k : Nat) (hk : k ≤ l.length) : handF l k = match aheadC l k, l[k]? with | some a, some b => if a.href = [] then b.href else a.href | some a, none => a.href | none, some b => b.href | none, none => [] := by
 unfold handF
 cases k with
 | zero =>
  by_cases h : 0 < l.length
  ·obtain ⟨x, hx, _⟩ := getOf l 0 h
   simp [aheadC, hx, h, List.getD]
  ·have : l[0]? = none := List.getElem?_eq_none (by omega)
   simp [aheadC, this, h]
 | succ j =>
  obtain ⟨a, ha, _⟩ := getOf l j (by omega)
  by_cases h : j + 1 < l.length
  ·obtain ⟨b, hb, _⟩ := getOf l (j + 1) h
   by_cases he : a.href = [] <;> simp [aheadC, ha, hb, h, he, List.getD]
  ·have : l[j + 1]? = none := List.getElem?_eq_none (by omega)
   by_cases he : a.href = [] <;> simp [aheadC, ha, this, h, he, List.getD]
end Go.Proofs.Qw
namespace Go.Proofs.YtcliojeoindceaaGreatDoor
open Go.RowKit
open Go.Proofs.Qw
open _root_.Go.Lib renaming hid → zA
open _root_.Nat renaming le_refl → zC
open _root_.Go.RowKit.Below renaming refl → zE, setCell → zF, alloc → zG, drew → zH
open _root_.Int renaming natCast_nonneg → zR
def PtrOf (w : World) (p : Option Addr) : Option Cel → Prop
 | none => p = none
 | some c => ∃ b o, p = some ⟨b, o, none⟩ ∧ b < w.heap.size ∧ w.cell? ⟨b, o, none⟩ = some (.int .i32 c.r) ∧ w.cell? ⟨b, o + 1, none⟩ = some (.int .i64 c.bits) ∧ w.cell? ⟨b, o + 2, none⟩ = some (.string ⟨c.href.toArray⟩)
set_option maxRecDepth 100000 in
theorem sides_any (v : Value) (l : List Cel) (k : Nat) (w : World) (S : Nat → Prop) (h : CelsR false w S v l) (hk : k ≤ l.length) :
  Calls Tryz.prog 226 #[v, .int .i64 k] w fun e w' => ∃ pa pb, e = .returned (.tuple #[.int .i64 k, .pointer pa, .pointer pb]) ∧ w' = w ∧ PtrOf w pa (aheadC l k) ∧ PtrOf w pb l[k]? := by
 obtain ⟨a, c, rfl, hc, hm, hx⟩ := cels_shape h
 have e1 : max (k : Int) 0 = k := by omega
 have e2 : min (k : Int) (l.length : Int) = k := by omega
 unfold maxLen at hm
 have HX := zA hx
 clear hx h
 cases k with
 | zero =>
  by_cases hn : 0 < l.length
  ·obtain ⟨x, hx0, _⟩ := getOf l 0 hn
   obtain ⟨b, o, rfl, hz, c0, c1, c2⟩ := HX.out 0 x hx0
   have HB : Hid (PtrOf w (some ⟨b, o, none⟩) l[0]?) := zA (by rw [hx0]; exact ⟨b, o, rfl, hz, by simpa using c0, by simpa using c1, by simpa using c2⟩)
   clear hx0 c0 c1 c2 hz
   go_enter Tryz.func226, Tryz.ntmps226
   go_wp2_with fail
   go_ret3
   exact ⟨none, _, rfl, rfl, rfl, HB.out⟩
  ·have hn : l.length = 0 := by omega
   have HB : Hid (PtrOf w none l[0]?) := zA (by rw [List.getElem?_eq_none (by omega)]; exact rfl)
   go_enter Tryz.func226, Tryz.ntmps226
   go_wp2_with fail
   go_ret3
   exact ⟨none, none, rfl, rfl, rfl, HB.out⟩
 | succ j =>
  obtain ⟨x, hx0, _⟩ := getOf l j (by omega)
  obtain ⟨b, o, rfl, hz, c0, c1, c2⟩ := HX.out j x hx0
  have HA : Hid (PtrOf w (some ⟨b, o + j * 3, none⟩) (aheadC l (j + 1))) := zA (by show PtrOf _ _ l[j]?; rw [hx0]; exact ⟨b, o + j * 3, rfl, hz, c0, c1, c2⟩)
  have e1' : max ((j : Int) + 1) 0 = (j : Int) + 1 := by omega
  have e2' : min ((j : Int) + 1) (l.length : Int) = (j : Int) + 1 := by omega
  have e4 : ((j : Int) + 1).toNat = j + 1 := by omega
  clear e1 e2
  clear hx0 c0 c1 c2
  by_cases hn : j + 1 < l.length
  ·obtain ⟨y, hy0, _⟩ := getOf l (j + 1) hn
   obtain ⟨b', o', hbe, hz', c0, c1, c2⟩ := HX.out (j + 1) y hy0
   cases hbe
   have HB : Hid (PtrOf w (some ⟨b, o + (j + 1) * 3, none⟩) l[j + 1]?) := zA (by rw [hy0]; exact ⟨b, o + (j + 1) * 3, rfl, hz', c0, c1, c2⟩)
   clear hy0 c0 c1 c2 hz' hz
   go_enter Tryz.func226, Tryz.ntmps226
   go_wp2_with fail
   go_ret3
   exact ⟨_, _, rfl, rfl, HA.out, HB.out⟩
  ·have HB : Hid (PtrOf w none l[j + 1]?) := zA (by rw [List.getElem?_eq_none (by omega)]; exact rfl)
   clear hz
   go_enter Tryz.func226, Tryz.ntmps226
   go_wp2_with fail
   go_ret3
   exact ⟨_, none, rfl, rfl, HA.out, HB.out⟩
set_option maxRecDepth 100000 in
theorem around_any (v : Value) (l : List Cel) (k : Nat) (w : World) (S : Nat → Prop) (h : CelsR false w S v l) (hk : k ≤ l.length) :
  Calls Tryz.prog 141 #[v, .int .i64 k] w fun e w' => e = .returned (.tuple #[.int .i64 (aroundF l k).1, .string ⟨(aroundF l k).2.toArray⟩]) ∧ Below w.heap.size w w' := by
 have HS := zA (sides_any v l k w S h hk)
 have HR := zA (aroundF_eq l k hk)
 obtain ⟨r1, r2, hr⟩ : ∃ r1 r2, aroundF l k = (r1, r2) := ⟨_, _, rfl⟩
 rw [hr] at HR ⊢
 clear hr hk
 obtain ⟨a, c, rfl⟩ := h.slice
 clear h
 have hw0 : Below w.heap.size w w := zE _ _
 generalize aheadC l k = X at *
 generalize l[k]? = Y at *
 cases X with
 | none =>
  cases Y with
  | none =>
   go_enter Tryz.func141, Tryz.ntmps141
   go_wp2_with (go_at_call 226; refine HS.out.mono ?_; intro e w1 hs; obtain ⟨pa, pb, rfl, rfl, hpa, hpb⟩ := hs; obtain rfl : pa = none := hpa; obtain rfl : pb = none := hpb)
   go_region
   go_wp2_with fail
   go_ret2
   cases HR.out
   exact ⟨rfl, (by ((with_reducible repeat' first | exact zE _ _ | assumption | refine zG ?_ ?_ _ | refine zH ?_ | refine drewN_below ?_ | refine zF ?_ ?_ _) <;> go_size))⟩
  | some y =>
   go_enter Tryz.func141, Tryz.ntmps141
   go_wp2_with (go_at_call 226; refine HS.out.mono ?_; intro e w1 hs; obtain ⟨pa, pb, rfl, rfl, hpa, hpb⟩ := hs; obtain rfl : pa = none := hpa; obtain ⟨b, o, rfl, hz, c0, c1, c2⟩ := hpb)
   go_region
   go_wp2_with fail
   go_ret2
   cases HR.out
   exact ⟨rfl, (by ((with_reducible repeat' first | exact zE _ _ | assumption | refine zG ?_ ?_ _ | refine zH ?_ | refine drewN_below ?_ | refine zF ?_ ?_ _) <;> go_size))⟩
 | some x =>
  cases Y with
  | none =>
   go_enter Tryz.func141, Tryz.ntmps141
   go_wp2_with (go_at_call 226; refine HS.out.mono ?_; intro e w1 hs; obtain ⟨pa, pb, rfl, rfl, hpa, hpb⟩ := hs; obtain ⟨b, o, rfl, hz, c0, c1, c2⟩ := hpa; obtain rfl : pb = none := hpb)
   go_region
   go_wp2_with fail
   go_ret2
   cases HR.out
   exact ⟨rfl, (by ((with_reducible repeat' first | exact zE _ _ | assumption | refine zG ?_ ?_ _ | refine zH ?_ | refine drewN_below ?_ | refine zF ?_ ?_ _) <;> go_size))⟩
  | some y =>
   by_cases hxy : x.href = y.href
   ·have HQ : Hid ((r1, r2) = (x.bits, x.href)) := zA (HR.out.trans (by simp [hxy]))
    have hq : (x.href == y.href) = true := by simpa using hxy
    clear hxy HR
    go_enter Tryz.func141, Tryz.ntmps141
    go_wp2_with (go_at_call 226; refine HS.out.mono ?_; intro e w1 hs; obtain ⟨pa, pb, rfl, rfl, hpa, hpb⟩ := hs; obtain ⟨b, o, rfl, hz, c0, c1, c2⟩ := hpa; obtain ⟨b', o', rfl, hz', c0', c1', c2'⟩ := hpb)
    go_region
    go_wp2_with fail
    go_ret2
    cases HQ.out
    exact ⟨rfl, (by ((with_reducible repeat' first | exact zE _ _ | assumption | refine zG ?_ ?_ _ | refine zH ?_ | refine drewN_below ?_ | refine zF ?_ ?_ _) <;> go_size))⟩
   ·have HQ : Hid ((r1, r2) = (x.bits, [])) := zA (HR.out.trans (by simp [hxy]))
    have hq : (x.href == y.href) = false := by simpa using hxy
    clear hxy HR
    go_enter Tryz.func141, Tryz.ntmps141
    go_wp2_with (go_at_call 226; refine HS.out.mono ?_; intro e w1 hs; obtain ⟨pa, pb, rfl, rfl, hpa, hpb⟩ := hs; obtain ⟨b, o, rfl, hz, c0, c1, c2⟩ := hpa; obtain ⟨b', o', rfl, hz', c0', c1', c2'⟩ := hpb)
    go_region
    go_wp2_with fail
    go_ret2
    cases HQ.out
    exact ⟨rfl, (by ((with_reducible repeat' first | exact zE _ _ | assumption | refine zG ?_ ?_ _ | refine zH ?_ | refine drewN_below ?_ | refine zF ?_ ?_ _) <;> go_size))⟩
set_option maxRecDepth 100000 in
theorem within_any (v : Value) (l : List Cel) (k : Nat) (w : World) (S : Nat → Prop) (h : CelsR false w S v l) (hk : k ≤ l.length) (hl : l.length ≤ 1000000) :
  Calls Tryz.prog 264 #[v, .int .i64 k] w fun e w' => e = .returned (.tuple #[.int .i64 (withinF l k).1, .int .i64 (withinF l k).2]) ∧ Below w.heap.size w w' := by
 have HS := zA (sides_any v l k w S h hk)
 have HE := zA (handF_eq l k hk)
 obtain ⟨H, hH⟩ : ∃ H, handF l k = H := ⟨_, rfl⟩
 have HR : Hid (withinF l k = if H = [] then (k, k) else (backF l H k, forthF l H k)) := zA (by unfold withinF; rw [hH])
 rw [hH] at HE
 clear hH
 obtain ⟨a, c, rfl, hc, hm, hx⟩ := cels_shape h
 unfold maxLen at hm
 have HX := zA hx
 clear hx h
 have hw0 : Below w.heap.size w w := zE _ _
 go_enter Tryz.func264, Tryz.ntmps264
 go_upto_if 18 with (go_at_call 226; refine HS.out.mono ?_; intro e w1 hs; obtain ⟨pa, pb, rfl, rfl, hpa, hpb⟩ := hs; have HA := zA hpa; have HB := zA hpb; clear hpa hpb)
 clear HS
 generalize aheadC l k = X at *
 obtain ⟨Y, hY⟩ : ∃ Y, l[k]? = Y := ⟨_, rfl⟩
 rw [hY] at HB HE
 clear hY
 obtain ⟨h0, hh0⟩ : ∃ h0 : List UInt8, (Y.map (fun y : Cel => y.href)).getD [] = h0 := ⟨_, rfl⟩
 have hE : H = (X.map (fun x : Cel => if x.href = [] then h0 else x.href)).getD h0 := by rw [HE.out, ← hh0]; cases X <;> cases Y <;> simp
 clear HE
 have HE := zA hE
 clear hE
 go_cut [9] from 17 (fun r wx => r = .string ⟨h0.toArray⟩ ∧ wx = w1)
 case first =>
  cases Y with
  | none =>
   obtain rfl : pb = none := HB.out
   cases hh0
   go_wp2_with fail
   go_meet
   case rel => exact ⟨rfl, rfl⟩
  | some y =>
   obtain ⟨b, o, rfl, hz, c0, c1, c2⟩ := HB.out
   cases hh0
   go_wp2_with fail
   go_meet
   case rel => exact ⟨rfl, rfl⟩
 case rest =>
 obtain ⟨rfl, rfl⟩ := hcut
 clear hh0 HB
 obtain ⟨B, hB⟩ : ∃ B, (X.map (fun x : Cel => !x.href.isEmpty)).getD false = B := ⟨_, rfl⟩
 go_upto_region 5 with fail
 go_cut [31] from 25 to 31 (fun r wx => r = .bool B ∧ wx = wc)
 case first =>
  cases X with
  | none =>
   obtain rfl : pa = none := HA.out
   cases hB
   go_wp2_with fail
   go_meet
   case rel => exact ⟨rfl, rfl⟩
  | some x =>
   obtain ⟨b, o, rfl, hz, c0, c1, c2⟩ := HA.out
   have hB' : B = !x.href.isEmpty := hB.symm
   clear hB
   cases hq : x.href.isEmpty
   all_goals
    rw [hq] at hB'
    subst hB'
    go_wp2_with fail
    go_meet
    case rel => exact ⟨rfl, rfl⟩
 case rest =>
 obtain ⟨rfl, rfl⟩ := hcut
 have hHB : (B = false ∧ H = h0) ∨ (B = true ∧ ∃ x, X = some x ∧ H = x.href) := by
  rw [← hB, HE.out]
  cases X with
  | none => exact .inl ⟨rfl, rfl⟩
  | some x =>
   cases hx : x.href with
   | nil => exact .inl ⟨by simp [hx], by simp [hx]⟩
   | cons y l => exact .inr ⟨by simp [hx], x, rfl, by simp [hx]⟩
 have HHB := zA hHB
 clear hHB hB HE
 go_upto_if 31 with fail
 go_cut [9] from 32 (fun r wx => r = .string ⟨H.toArray⟩ ∧ wx = wc)
 case first =>
  rcases HHB.out with ⟨rfl, rfl⟩ | ⟨rfl, x, rfl, rfl⟩
  ·go_wp2_with fail
   go_meet
   case rel => exact ⟨rfl, rfl⟩
  ·obtain ⟨b, o, rfl, hz, c0, c1, c2⟩ := HA.out
   go_wp2_with fail
   go_meet
   case rel => exact ⟨rfl, rfl⟩
 case rest =>
 obtain ⟨rfl, rfl⟩ := hcut
 clear HA HHB
 by_cases hH : H = []
 ·have HQ : Hid (withinF l k = (k, k)) := zA (HR.out.trans (if_pos hH))
  subst hH
  go_wp2_with fail
  go_ret2
  rw [HQ.out]
  exact ⟨rfl, hw0⟩
 ·have HQ : Hid (withinF l k = (backF l H k, forthF l H k)) := zA (HR.out.trans (if_neg hH))
  have hne : H.isEmpty = false := by simpa using hH
  clear HR hH
  go_wp2_with fail
  go_loopw [4] (fun i wr => ∃ j : Nat, j ≤ k ∧ i = .int .i64 j ∧ Hid (backF l H k = backF l H j) ∧ wc = wr) (fun i _ => (intOf i).toNat)
  case atStart => exact ⟨k, zC _, rfl, zA rfl, rfl⟩
  case round =>
   obtain ⟨j, hj, rfl, HJ, rfl⟩ := hrel
   have hdone : (j = 0 ∨ ∃ m, j = m + 1 ∧ ∃ x, l[m]? = some x ∧ x.href ≠ H) ∨ ∃ m, j = m + 1 ∧ ∃ x, l[m]? = some x ∧ x.href = H := by
    cases j with
    | zero => exact .inl (.inl rfl)
    | succ m =>
     obtain ⟨x, hx, _⟩ := getOf l m (by omega)
     by_cases e : x.href = H
     ·exact .inr ⟨m, rfl, x, hx, e⟩
     ·exact .inl (.inr ⟨m, rfl, x, hx, e⟩)
   rcases hdone with (rfl | ⟨m, rfl, x, hx, hxe⟩) | ⟨m, rfl, x, hx, hxe⟩
   ·have HB' : Hid (backF l H k = 0) := zA (HJ.out.trans rfl)
    go_wp2_with fail
    go_loopw [5] (fun i wr => ∃ n : Nat, k ≤ n ∧ n ≤ l.length ∧ i = .int .i64 n ∧ Hid (forthF l H k = forthF l H n) ∧ wc = wr) (fun i _ => l.length - (intOf i).toNat)
    case atStart => exact ⟨k, zC _, hk, rfl, zA rfl, rfl⟩
    case round =>
     obtain ⟨n, hn, hnl, rfl, HN, rfl⟩ := hrel
     by_cases hlt : n < l.length
     ·obtain ⟨y, hy, _⟩ := getOf l n hlt
      obtain ⟨b', o', hbe, hz', d0, d1, d2⟩ := HX.out n y hy
      subst hbe
      have n0 : (0 : Int) ≤ (n : Int) := zR _
      by_cases hye : y.href = H
      ·have HF := zA (HN.out.trans (forthF_on hy hye))
       have hq : (y.href == H) = true := by simpa using hye
       clear hy hye
       go_wp2_with fail
       go_roundw
       case rel => exact ⟨n + 1, by omega, by omega, by go_num, HF, by simp⟩
       case measure => simp [intOf]; omega
      ·have HF := zA (HN.out.trans (forthF_off hy hye))
       have hq : (y.href == H) = false := by simpa using hye
       clear hy hye
       go_wp2_with fail
       go_ret2
       rw [HQ.out, HB'.out, HF.out]
       exact ⟨rfl, hw0⟩
     ·obtain rfl : n = l.length := by omega
      have HF := zA (HN.out.trans (forthF_end (zC _)))
      go_wp2_with fail
      go_ret2
      rw [HQ.out, HB'.out, HF.out]
      exact ⟨rfl, hw0⟩
   ·have HB' : Hid (backF l H k = m + 1) := zA (HJ.out.trans (by unfold backF; rw [if_neg (by simpa [List.getD, hx] using hxe)]))
    obtain ⟨b, o, rfl, hz, c0, c1, c2⟩ := HX.out m x hx
    have hq : (x.href == H) = false := by simpa using hxe
    have e3 : ((m + 1 : Nat) : Int) - 1 = m := by omega
    clear hx hxe
    go_wp2_with fail
    go_loopw [5] (fun i wr => ∃ n : Nat, k ≤ n ∧ n ≤ l.length ∧ i = .int .i64 n ∧ Hid (forthF l H k = forthF l H n) ∧ wc = wr) (fun i _ => l.length - (intOf i).toNat)
    case atStart => exact ⟨k, zC _, hk, rfl, zA rfl, rfl⟩
    case round =>
     obtain ⟨n, hn, hnl, rfl, HN, rfl⟩ := hrel
     by_cases hlt : n < l.length
     ·obtain ⟨y, hy, _⟩ := getOf l n hlt
      obtain ⟨b', o', hbe, hz', d0, d1, d2⟩ := HX.out n y hy
      cases hbe
      have n0 : (0 : Int) ≤ (n : Int) := zR _
      by_cases hye : y.href = H
      ·have HF := zA (HN.out.trans (forthF_on hy hye))
       have hq : (y.href == H) = true := by simpa using hye
       clear hy hye
       go_wp2_with fail
       go_roundw
       case rel => exact ⟨n + 1, by omega, by omega, by go_num, HF, by simp⟩
       case measure => simp [intOf]; omega
      ·have HF := zA (HN.out.trans (forthF_off hy hye))
       have hq : (y.href == H) = false := by simpa using hye
       clear hy hye
       go_wp2_with fail
       go_ret2
       rw [HQ.out, HB'.out, HF.out]
       exact ⟨rfl, hw0⟩
     ·obtain rfl : n = l.length := by omega
      have HF := zA (HN.out.trans (forthF_end (zC _)))
      go_wp2_with fail
      go_ret2
      rw [HQ.out, HB'.out, HF.out]
      exact ⟨rfl, hw0⟩
   ·have HB' := zA (HJ.out.trans (show backF l H (m + 1) = backF l H m by rw [backF, if_pos (by simpa [List.getD, hx] using hxe)]))
    obtain ⟨b, o, rfl, hz, c0, c1, c2⟩ := HX.out m x hx
    have hq : (x.href == H) = true := by simpa using hxe
    have e3 : ((m + 1 : Nat) : Int) - 1 = m := by omega
    clear hx hxe
    go_wp2_with fail
    go_roundw
    case rel => exact ⟨m, by omega, by go_num, HB', by simp⟩
    case measure => simp [intOf]
end Go.Proofs.YtcliojeoindceaaGreatDoor
namespace Go.Proofs.Qw
open Go.RowKit Go.Proofs.YtcliojeoindceaaGreatDoor
def selS (s : St) : List Cel := cellsD s.lines (spanS s).1 (spanS s).2
def cellsAt (s : St) : List Cel := (s.lines.getD s.anc.line.toNat default).cells
def andB (l : List Cel) : Int := l.foldl (fun b c => bits .and .i64 b c.bits) 15
def bitsL (l : List Cel) : Int := if l = [] then 0 else andB l
def bitsS (s : St) : Int := if mayS s = true then (if s.anc = s.foc then bits .or .i64 (bits .andNot .i64 (aroundF (cellsAt s) s.anc.col.toNat).1 s.off) s.on else bitsL (selS s)) else 0
def hasS (s : St) (b : Int) : Bool := !(b == 0) && (bits .and .i64 (bitsS s) b == b)
def allL (l : List Cel) (b : Int) : Bool := decide (0 < l.length) && l.all fun c => bits .and .i64 c.bits b == b
def someL (l : List Cel) (b : Int) : Bool := l.any fun c => bits .and .i64 c.bits b != 0
def mixedS (s : St) (b : Int) : Bool := mayS s && (!decide (s.anc = s.foc) && (someL (selS s) b && !allL (selS s) b))
def handS (s : St) : Ps × Ps := if s.anc = s.foc then (⟨s.anc.line, ((withinF (cellsAt s) s.anc.col.toNat).1 : Int)⟩, ⟨s.anc.line, ((withinF (cellsAt s) s.anc.col.toNat).2 : Int)⟩) else spanS s
def hrefL : List Cel → List UInt8
 | [] => []
 | c :: l => if l.all (fun x => decide (x.href = c.href)) = true then c.href else []
def hrefS (s : St) : List UInt8 := if mayS s = true then hrefL (cellsD s.lines (handS s).1 (handS s).2) else []
def staysS (s : St) (x : Doc × Int) : St × Int := if x.2 = 0 then (⟨x.1, s.anc, s.foc, 0, 0⟩, 0) else (noS, x.2)
def changedS (s : St) (x : Doc × Int) : St × Int := if mayS s = true then staysS s x else (noS, 1)
def four (b : Int) : Bool := decide (b = 1) || (decide (b = 2) || (decide (b = 4) || decide (b = 8)))
def togC (s : St) (b : Int) : St :=
 { s with on := bits .or .i64 (bits .andNot .i64 s.on b) (bits .andNot .i64 b (bitsS s)), off := bits .or .i64 (bits .andNot .i64 s.off b) (bits .andNot .i64 b (bits .andNot .i64 b (bitsS s))) }
def togD (s : St) (b : Int) : Doc × Int := if allL (selS s) b = true then setD 0 b s.lines (spanS s).1 (spanS s).2 else setD b 0 s.lines (spanS s).1 (spanS s).2
def toggleS (s : St) (b : Int) : St × Int := if mayS s = true ∧ four b = true then (if s.anc = s.foc then (togC s b, 0) else staysS s (togD s b)) else (noS, 1)
def linkL (s : St) (h : List UInt8) : Doc × Int := if targetF h = true then linkD h s.lines (spanS s).1 (spanS s).2 else ([], 1)
def unlinkL (s : St) : Doc × Int := if (cellsD s.lines (handS s).1 (handS s).2).any (fun c => decide (c.href ≠ [])) = true then linkD [] s.lines (handS s).1 (handS s).2 else ([], 7)
def plainL (s : St) : Doc × Int := if someL (selS s) 15 = true then setD 0 15 s.lines (spanS s).1 (spanS s).2 else ([], 7)
theorem spanS_closed {s : St} (h : s.anc = s.foc) : spanS s = (s.anc, s.anc) := by
 have : cmpP s.foc s.foc = 0 := by simp [cmpP, cmpI]
 unfold spanS
 rw [h, this, if_neg (by omega)]
theorem mayS_at {s : St} (h : mayS s = true) : mayD s.lines = true ∧ isD s.lines s.anc = true ∧ isD s.lines s.foc = true ∧ bits .andNot .i64 s.on 15 = 0 ∧ bits .andNot .i64 s.off 15 = 0 ∧ bits .and .i64 s.on s.off = 0 := by
 simpa [mayS, and_assoc] using h
theorem mayS_span {s : St} (h : mayS s = true) : spanD s.lines (spanS s).1 (spanS s).2 = true := by
 obtain ⟨h1, h2, h3, _⟩ := mayS_at h
 unfold spanS
 split
 ·rename_i hc
  rw [cmpP_lt] at hc
  simp [spanD, h1, h2, h3]
  omega
 ·simp [spanD, h1, h2, h3]
  omega
theorem four_cases {b : Int} (h : four b = true) : b = 1 ∨ b = 2 ∨ b = 4 ∨ b = 8 := by
 simpa [four] using h
theorem and_four (a c b : Int) (ha : 0 ≤ a ∧ a ≤ 15) (hc : 0 ≤ c ∧ c ≤ 15) (hb : four b = true) : (bits .and .i64 (bits .and .i64 a c) b == b) = ((bits .and .i64 a b == b) && (bits .and .i64 c b == b)) ∧ (0 ≤ bits .and .i64 a c ∧ bits .and .i64 a c ≤ 15) := by
 obtain ⟨a, rfl⟩ := Int.eq_ofNat_of_zero_le ha.1
 obtain ⟨c, rfl⟩ := Int.eq_ofNat_of_zero_le hc.1
 have H : ∀ a c : Fin 16, ∀ b ∈ [(1 : Int), 2, 4, 8], (bits .and .i64 (bits .and .i64 (a.val : Int) c.val) b == b) = ((bits .and .i64 (a.val : Int) b == b) && (bits .and .i64 (c.val : Int) b == b)) ∧ (0 ≤ bits .and .i64 (a.val : Int) c.val ∧ bits .and .i64 (a.val : Int) c.val ≤ 15) := by decide +kernel
 exact H ⟨a, by omega⟩ ⟨c, by omega⟩ b (by rcases four_cases hb with rfl | rfl | rfl | rfl <;> simp)
theorem fold_and {b : Int} (hb : four b = true) : ∀ (l : List Cel) (a : Int), 0 ≤ a ∧ a ≤ 15 → (∀ c ∈ l, 0 ≤ c.bits ∧ c.bits ≤ 15) →
  (bits .and .i64 (l.foldl (fun b c => bits .and .i64 b c.bits) a) b == b) = ((bits .and .i64 a b == b) && l.all fun c => bits .and .i64 c.bits b == b) ∧ (0 ≤ l.foldl (fun b c => bits .and .i64 b c.bits) a ∧ l.foldl (fun b c => bits .and .i64 b c.bits) a ≤ 15)
 | [], a, ha, _ => by simpa using ha
 | c :: l, a, ha, h => by
  have h1 := and_four a c.bits b ha (h c (by simp)) hb
  have h2 := fold_and hb l (bits .and .i64 a c.bits) h1.2 (fun x hx => h x (by simp [hx]))
  rw [List.foldl_cons, List.all_cons, h2.1, h1.1, Bool.and_assoc]
  exact ⟨rfl, h2.2⟩
theorem bits_all {l : List Cel} {b : Int} (hb : four b = true) (h : ∀ c ∈ l, 0 ≤ c.bits ∧ c.bits ≤ 15) : (bits .and .i64 (bitsL l) b == b) = allL l b := by
 cases l with
 | nil => rcases four_cases hb with rfl | rfl | rfl | rfl <;> decide +kernel
 | cons c l =>
  have h1 := (fold_and hb (c :: l) 15 (by decide) h).1
  have h2 : (bits .and .i64 15 b == b) = true := by rcases four_cases hb with rfl | rfl | rfl | rfl <;> decide +kernel
  rw [h2, Bool.true_and] at h1
  unfold bitsL allL andB
  rw [if_neg (by simp), h1]
  simp
theorem cells_may {d : Doc} {a b : Ps} (h : mayD d = true) : ∀ c ∈ cellsD d a b, mayC c = true := by
 intro c hc
 unfold cellsD at hc
 split at hc
 ·obtain ⟨x, _, hx⟩ := List.mem_flatMap.1 hc
  have h1 := List.mem_of_mem_drop (List.mem_of_mem_take hx)
  by_cases hk : x.1 < d.length
  ·obtain ⟨l, hl, _⟩ := getOf d x.1 hk
   rw [List.getD, hl] at h1
   have h2 : mayL l = true := by
    simp only [mayD, Bool.and_eq_true, List.all_eq_true] at h
    exact h.2 l (List.mem_of_getElem? hl)
   simp only [mayL, Bool.and_eq_true] at h2
   exact List.all_eq_true.1 h2.2 c h1
  ·rw [List.getD, List.getElem?_eq_none (by omega)] at h1
   cases h1
 ·cases hc
theorem cells_bits {d : Doc} {a b : Ps} (h : mayD d = true) : ∀ c ∈ cellsD d a b, 0 ≤ c.bits ∧ c.bits ≤ 15 := by
 intro c hc
 have := cells_may h c hc
 simp only [mayC, Bool.and_eq_true, decide_eq_true_eq] at this
 exact ⟨this.1.1.2, this.1.2⟩
end Go.Proofs.Qw
namespace Go.Proofs.YtcliojeoindceaaGreatDoor
open Go.RowKit
open Go.Proofs.Qw
theorem src_at {P : Program} {st t : TypeId} {k : Nat} (hT : RowT P st t k) (w : World) (l : List Value) (hl : l.length = k) (h1 : ∀ u ∈ l, u.oneCell' = true) (c : Nat) {B : Nat} (hB : B = w.heap.size) : Src P k st (.slice (some ⟨B, 0, none⟩) 1 c) 1 l (w.alloc (.cells l.toArray t)) := hB ▸ src_one hT w l hl h1 c
def partOf (d : Doc) (x : Nat × Nat × Nat) : Lin := { (d.getD x.1 default) with cells := cellsB d x }
def partD (d : Doc) (a b : Ps) : Doc × Int := if spanD d a b = true then ((rowsTo d a.line.toNat a.col.toNat b.line.toNat b.col.toNat (b.line.toNat + 1)).map (partOf d), 0) else ([], 1)
theorem partOf_at {d : Doc} {x : Nat × Nat × Nat} {l : Lin} (h : d[x.1]? = some l) : partOf d x = { l with cells := (l.cells.drop x.2.1).take (x.2.2 - x.2.1) } := by
 unfold partOf
 rw [cellsB_at h]
 simp [List.getD, h]
theorem flat_parts (d : Doc) (xs : List (Nat × Nat × Nat)) : (xs.map (partOf d)).flatMap (·.cells) = cellsL d xs := by
 unfold cellsL
 rw [List.flatMap_map]
 rfl
theorem cellsL_size (d : Doc) (i p j q : Nat) : ∀ n : Nat, i + n ≤ d.length → (cellsL d (rowsTo d i p j q (i + n))).length ≤ sizeD (d.take (i + n))
 | 0, _ => by rw [Nat.add_zero, rowsTo_nil]; simp [cellsL]
 | n + 1, h => by
  have ih := cellsL_size d i p j q n (by omega)
  obtain ⟨l, hl, _⟩ := getOf d (i + n) (by omega)
  have hs := sizeD_step hl
  rw [show i + (n + 1) = i + n + 1 by omega, rowsTo_step d (by omega), cellsL_snoc, List.length_append]
  have : (cellsB d (rowB d i p j q (i + n))).length ≤ l.cells.length := by
   rw [cellsB_at (x := rowB d i p j q (i + n)) hl, List.length_take, List.length_drop]
   omega
  omega
theorem cellsD_size (d : Doc) (a b : Ps) : (cellsD d a b).length ≤ sizeD d := by
 unfold cellsD
 split
 ·rename_i h
  obtain ⟨_, i, j, p, q, l, m, rfl, rfl, hl, hm, _, _, hij, _⟩ := span_at h
  have hjl := (List.getElem?_eq_some_iff.1 hm).1
  have := cellsL_size d i p j q (j + 1 - i) (by omega)
  rw [show i + (j + 1 - i) = j + 1 by omega] at this
  exact Nat.le_trans this (sizeD_le d _)
 ·simp
end Go.Proofs.YtcliojeoindceaaGreatDoor
namespace Go.Proofs.Qw
open Go.RowKit Go.Proofs.YtcliojeoindceaaGreatDoor
theorem setRows_before (C : List Cel → Nat → Nat → List Cel) (d : Doc) (i p j q : Nat) : ∀ (n m : Nat), i + n ≤ m → (setRows C d (rowsTo d i p j q (i + n)))[m]? = d[m]?
 | 0, m, _ => by rw [Nat.add_zero, rowsTo_nil]; rfl
 | n + 1, m, h => by
  have ih := setRows_before C d i p j q n m (by omega)
  rw [show i + (n + 1) = i + n + 1 by omega, rowsTo_step d (by omega), setRows_snoc]
  unfold setRow
  rw [List.getElem?_set_ne (by show ¬ i + n = m; omega)]
  exact ih
theorem setRows_step (C : List Cel → Nat → Nat → List Cel) {d : Doc} {i p j q k : Nat} {l : Lin} (h : i ≤ k) (hl : d[k]? = some l) :
  (setRows C d (rowsTo d i p j q k))[k]? = some l ∧ setRows C d (rowsTo d i p j q (k + 1)) = (setRows C d (rowsTo d i p j q k)).set k { l with cells := C l.cells (rowB d i p j q k).2.1 (rowB d i p j q k).2.2 } := by
 have hb := setRows_before C d i p j q (k - i) k (by omega)
 rw [show i + (k - i) = k by omega, hl] at hb
 refine ⟨hb, ?_⟩
 rw [rowsTo_step d h, setRows_snoc, setRow_at (x := rowB d i p j q k) hb]
 rfl
end Go.Proofs.Qw
namespace Go.Proofs.YtcliojeoindceaaGreatDoor
open Go.RowKit
open Go.Proofs.Qw
open _root_.Go.Lib renaming hid → zA
open _root_.Nat renaming le_refl → zC, le_trans → zD
open _root_.Go.Proofs.Tryz renaming prog → zV
open _root_.Go.Proofs.Qw renaming rdOf_stable → qC
open _root_.Go.Proofs.Qw.SliceR renaming stable → qH
theorem wpList_named {P : Program} {ops : Array Oper} {Q : Exit → Act → World → Prop} {l : List Oper} {a : Act} {w : World} (h : ∀ w', w = w' → wpList P ops Q l a w') : wpList P ops Q l a w := h w rfl
set_option maxRecDepth 100000 in
theorem lineFrame_any (l : Lin) (a b : Value) (o1 o2 : Bool) (w w0 : World) (S : Nat → Prop) (hL : IntsR o1 w0 S a l.lists) (hC : CelsR o2 w0 S b l.cells) (h0 : Below w0.heap.size w0 w) (hs : l.lists.length ≤ 1000000 ∧ l.cells.length ≤ 1000000) :
  Calls zV 265 #[linV l a b] w fun e w' => ∃ a', e = .returned (linV l a' (.slice none 0 0)) ∧ IntsR true w' (fun b => w.heap.size ≤ b) a' l.lists ∧ Below w.heap.size w w' := by
 have HO : Hid (∀ W, Below w0.heap.size w0 W → Calls zV 134 #[linV l a b] W fun e w' => ∃ a' b', e = .returned (linV l a' b') ∧ IntsR true w' (fun b => W.heap.size ≤ b) a' l.lists ∧ CelsR true w' (fun b => W.heap.size ≤ b) b' l.cells ∧ Below W.heap.size W w') := zA fun W hW => lineOwn_any l a b o1 o2 W w0 S hL hC hW hs
 obtain ⟨la, lc, rfl⟩ := hL.slice
 obtain ⟨ca, cc, rfl⟩ := hC.slice
 obtain ⟨W1, hW1, hB, hz, hA1, hA2⟩ := two_lines w (.int .i64 l.quote) (.slice la l.lists.length lc) (.int .i64 l.kind) (.slice ca l.cells.length cc) (.int .i64 0) (.slice none 0 0) (.int .i64 0) (.slice none 0 0)
 have hs1 := hB.size
 have HB0 : Hid (∀ W, Below W1.heap.size W1 W → W.heap[w.heap.size]? = some (.cells #[.int .i64 l.quote, .slice la l.lists.length lc, .int .i64 l.kind, .slice ca l.cells.length cc] 60)) := zA fun W hW => heap_below hW hA1
 have HB1 : Hid (∀ W, Below W1.heap.size W1 W → W.heap[w.heap.size + 1]? = some (.cells #[.int .i64 0, .slice none 0 0, .int .i64 0, .slice none 0 0] 60)) := zA fun W hW => heap_below hW hA2
 have H1 := zA hB
 have h01 : Below w0.heap.size w0 W1 := below_from h0 hB
 obtain ⟨p1, f1⟩ := blk hA1
 obtain ⟨p2, f2⟩ := blk hA2
 clear hL hC hs hB h0
 unfold linV at HO ⊢
 go_enter Tryz.func265, Tryz.ntmps265
 go_wp2_with (first | (go_at_call 134; refine (HO.out _ h01).mono ?_; rintro e w2 ⟨a', b', rfl, ha', hb', hb2⟩; obtain ⟨a1, c1, rfl⟩ := ha'.slice; obtain ⟨a2, c2, rfl⟩ := hb'.slice; have hA3 := HB0.out _ hb2; have hA4 := HB1.out _ hb2; obtain ⟨p3, f3⟩ := blk hA3; obtain ⟨p4, f4⟩ := blk hA4) | (with_reducible show wpList _ _ _ _ _ _; refine wpList_load_row rfl 60 _ rfl w.heap.size rfl 60 #[.int .i64 l.quote, .slice a1 l.lists.length c1, .int .i64 l.kind, .slice none 0 0] (0, 0) _ (by simp [heap_set, putIn, hA3]) Tryz.underlying60 rfl (by kernel_rfl) ?_; with_reducible refine wpList_named ?_; intro w3 hw3; have hA5 : w3.heap[w.heap.size + 1]? = some (.cells #[.int .i64 0, .slice none 0 0, .int .i64 0, .slice none 0 0] 60) := (by rw [← hw3]; simp [heap_set, hA4]); obtain ⟨p5, f5⟩ := blk hA5; clear p3 f3 p4 f4))
 refine bodyPost_ret (results_line rfl _ _ (w.heap.size + 1) (.int .i64 l.quote) (.slice a1 l.lists.length c1) (.int .i64 l.kind) (.slice none 0 0) rfl (by simp [heap_set, putIn, hA5])) rfl ?_
 have s2 := hb2.size
 have hfin := H1.out.trans (hb2.mono hs1)
 have hf3 : Below w.heap.size w w3 := by rw [← hw3]; ((with_reducible repeat' first | exact Below.refl _ _ | assumption | refine Below.alloc ?_ ?_ _ | refine Below.drew ?_ | refine drewN_below ?_ | refine Below.setCell ?_ ?_ _) <;> go_size)
 have hi3 : IntsR true w3 (fun b => W1.heap.size ≤ b) (.slice a1 l.lists.length c1) l.lists := by rw [← hw3]; exact (qH (qC _) ha' (by ((with_reducible repeat' first | exact Keeps.refl _ _ | refine Keeps.set ?_ ?_ _ | refine Keeps.alloc ?_ _ | refine Keeps.drew ?_) <;> (simp; omega))) (fun b h _ => (by have h' := h; (try simp at h'); omega)))
 exact ⟨_, rfl, (qH (qC _) hi3 (by ((with_reducible repeat' first | exact Keeps.refl _ _ | refine Keeps.set ?_ ?_ _ | refine Keeps.alloc ?_ _ | refine Keeps.drew ?_) <;> (simp; omega))) (fun b h _ => (by have h' := h; (try simp at h'); omega))), by ((with_reducible repeat' first | exact Below.refl _ _ | assumption | refine Below.alloc ?_ ?_ _ | refine Below.drew ?_ | refine drewN_below ?_ | refine Below.setCell ?_ ?_ _) <;> go_size)⟩
def splitL (l : Lin) (p : Nat) : Lin × Lin := ({ l with cells := l.cells.take p }, if l.cells.length ≤ p then { l with kind := 0, cells := [] } else { l with cells := l.cells.drop p })
theorem results_lines2 {fn : Func} {p q u : Tmp} (h : fn.results = #[.cell p 60, .cell q 60, .tmp u]) (tmps : Array Value) (w : World) (B C : Nat) (x1 x2 x3 x4 y1 y2 y3 y4 : Value) (hp : tmps.getD p undef = .pointer (some ⟨B, 0, none⟩)) (hq : tmps.getD q undef = .pointer (some ⟨C, 0, none⟩))
  (hB : w.heap[B]? = some (.cells #[x1, x2, x3, x4] 60)) (hC : w.heap[C]? = some (.cells #[y1, y2, y3, y4] 60)) :
  (results fn tmps).run zV w = .ok (.tuple #[.agg #[x1, x2, x3, x4], .agg #[y1, y2, y3, y4], tmps.getD u undef]) w := by
 have h1 := run_loadVar_row (P := zV) w B 60 60 _ _ _ hB Tryz.underlying60 rfl (by kernel_rfl)
 have h2 := run_loadVar_row (P := zV) w C 60 60 _ _ _ hC Tryz.underlying60 rfl (by kernel_rfl)
 have hp' : tmps[p]?.getD undef = .pointer (some ⟨B, 0, none⟩) := by simpa using hp
 have hq' : tmps[q]?.getD undef = .pointer (some ⟨C, 0, none⟩) := by simpa using hq
 simp [results, h, hp', hq', asAddr, h1, h2]
theorem SliceR.caps {α : Type} {t : TypeId} {k : Nat} {R : Rd α} {own : Bool} {w : World} {S : Nat → Prop} {xs : List α} {a : Option Addr} {n c : Nat} (h : SliceR t k R own w S (.slice a n c) xs) {m : Nat} (hn : xs.length ≤ m) (hm : m ≤ c) : SliceR t k R own w S (.slice a n m) xs := by
 obtain ⟨a', c', e, hc, hcm, hx⟩ := h
 cases e
 refine ⟨a, m, rfl, hn, by omega, ?_⟩
 rcases hx with ⟨rfl, h0⟩ | ⟨b, o, rfl, hb, hz, hf, he⟩
 ·exact .inl ⟨rfl, fun ho => by have := h0 ho; omega⟩
 ·refine .inr ⟨b, o, rfl, hb, hz, fun ho => ?_, he⟩
  obtain ⟨cs, g1, g2⟩ := hf ho
  exact ⟨cs, g1, zD (Nat.add_le_add_left (Nat.mul_le_mul_right _ hm) _) g2⟩
theorem cells_drop {Y : World} {S : Nat → Prop} {a : Option Addr} {n c p : Nat} {xs : List Cel} (h : CelsR true Y S (.slice a n c) xs) (hp : p ≤ xs.length) (hcp : ¬ c = p) : CelsR true Y S (.slice (Option.map (fun x => x.add (p * 3)) a) (xs.length - p) (c - p)) (xs.drop p) := by
 have := SliceR.part h (i := p) (j := xs.length) (m := c) hp (zC _) h.len.2.1 (zC _)
 rw [List.take_of_length_le (by rw [List.length_drop]; omega)] at this
 simpa only [sliced, if_neg hcp] using this
theorem wp_named {P : Program} {c : Code} {Q : Exit → Act → World → Prop} {a : Act} {w : World} (h : ∀ w', w = w' → c.wp P Q a w') : c.wp P Q a w := h w rfl
theorem drew_heap (w : World) : w.drew.heap = w.heap := rfl
theorem set_four (X : World) (B : Nat) (t : TypeId) (z1 z2 z3 z4 x1 x2 x3 x4 : Value) (h : X.heap[B]? = some (.cells #[z1, z2, z3, z4] t)) : ∃ Y, (((X.setCell ⟨B, 0, none⟩ x1).setCell ⟨B, 1, none⟩ x2).setCell ⟨B, 2, none⟩ x3).setCell ⟨B, 3, none⟩ x4 = Y ∧ Y.heap[B]? = some (.cells #[x1, x2, x3, x4] t) ∧ Y.heap.size = X.heap.size ∧
  (∀ b, b ≠ B → Y.heap[b]? = X.heap[b]?) ∧ (∀ n, n ≤ B → ∀ w, Below n w X → Below n w Y) := by
 refine ⟨_, rfl, by simp [heap_set, putIn, h], by simp, fun b hb => by simp [heap_set, Ne.symm hb], fun n hn w hw => ?_⟩
 exact (((hw.setCell hn _).setCell hn _).setCell hn _).setCell hn _
def insertC (cs : List Cel) (p : Nat) (more : List Cel) : List Cel := cs.take p ++ more ++ cs.drop p
theorem cels_from {w : World} {S : Nat → Prop} {a : Option Addr} {n c p : Nat} {xs : List Cel} (h : CelsR false w S (.slice a n c) xs) (hp : p ≤ xs.length) :
  ∃ X, CelsR false w S (.slice X (xs.length - p) (c - p)) (xs.drop p) ∧ ((c = p ∧ a = X) ∨ (¬ c = p ∧ a.map (·.add (p * 3)) = X)) := by
 obtain ⟨_, h2, h3⟩ := h.len
 have := SliceR.part h (i := p) (j := xs.length) (m := c) hp (zC _) h2 (zC _)
 rw [List.take_of_length_le (by rw [List.length_drop]; omega)] at this
 by_cases hcp : c = p
 ·exact ⟨a, by simpa only [sliced, if_pos hcp] using this, .inl ⟨hcp, rfl⟩⟩
 ·exact ⟨_, by simpa only [sliced, if_neg hcp] using this, .inr ⟨hcp, rfl⟩⟩
set_option maxRecDepth 100000 in
theorem cellsInsert_any (ca vb : Option Addr) (cc vc p : Nat) (cs more : List Cel) (w w0 w1 : World) (S S2 : Nat → Prop) (o1 o2 : Bool) (h' : CelsR o1 w0 S (.slice ca cs.length cc) cs) (hm' : CelsR o2 w1 S2 (.slice vb more.length vc) more)
  (h0 : Below w0.heap.size w0 w) (h1 : Below w1.heap.size w1 w) (hp : p ≤ cs.length) (hs : cs.length ≤ 1000000) (hs2 : more.length ≤ 1000000) :
  Calls zV 228 #[.slice ca cs.length cc, .int .i64 p, .slice vb more.length vc] w (CellsSaid (insertC cs p more) 0 w) := by
 have h : CelsR false w (fun _ => True) (.slice ca cs.length cc) cs := qH (qC _) (SliceR.read (fun _ _ h => h) h') (.all h0) (fun _ _ _ => trivial)
 have hm : CelsR false w (fun _ => True) (.slice vb more.length vc) more := qH (qC _) (SliceR.read (fun _ _ h => h) hm') (.all h1) (fun _ _ _ => trivial)
 have HC1 := zA (cellsSpan_any _ cs p p w (fun _ => True) false h)
 have hsp : spanC cs.length p p = true := by unfold spanC; simp; omega
 rw [hsp] at HC1
 obtain ⟨_, hccl, hccm⟩ := h.len
 obtain ⟨X, hX, hcq⟩ := cels_from h hp
 have hHC : ∀ W, Below w.heap.size w W → ∀ g, W.heap[g]? = some (.cells #[.slice ca p cc, .slice vb more.length vc, .slice X (cs.length - p) (cc - p)] 58) → Calls zV 239 #[.slice (some ⟨g, 0, none⟩) 3 3] W fun e w' => ∃ v', e = .returned v' ∧ CelsR true w' (fun b => W.heap.size ≤ b) v' (insertC cs p more) ∧ Below W.heap.size W w' := by
  intro W hW g hg
  have ha := (SliceR.below (qC _) h hW).take (i := p) hp
  have hb := SliceR.below (qC _) hm hW
  have hc := SliceR.below (qC _) hX hW
  have := concatCell_any g 3 #[.slice ca p cc, .slice vb more.length vc, .slice X (cs.length - p) (cc - p)] [cs.take p, more, cs.drop p] W (fun _ => True) hg (fun k xs hk => by
   match k, hk with
   | 0, hk => cases hk; exact ⟨_, rfl, ha⟩
   | 1, hk => cases hk; exact ⟨_, rfl, hb⟩
   | 2, hk => cases hk; exact ⟨_, rfl, hc⟩) (by simp [lens]; omega) (by simp) rfl
  simpa [insertC] using this
 have HC := zA hHC
 have hBd : ∀ X, Below w.heap.size w (w.alloc X).drew := fun X => ((Below.refl _ _).alloc (zC _) X).drew
 unfold maxLen at hccm
 have u0 : (0 : Int) ≤ (p : Int) := Int.natCast_nonneg _
 have u1 : (p : Int) ≤ (cc : Int) := by omega
 have u2 : (p : Int) ≤ (cs.length : Int) := by omega
 clear h hm h' hm' hX hHC hsp
 rcases hcq with ⟨rfl, rfl⟩ | ⟨hcq, rfl⟩
 ·rw [Nat.sub_self, show cs.length - cc = 0 by omega] at HC
  go_enter Tryz.func228, Tryz.ntmps228
  go_wp2_with (go_at_call 277; refine HC1.out.mono ?_; rintro e w2 ⟨rfl, rfl⟩)
  go_region_held3 (fun _ => True) (trivial) ((go_at_call 239; refine (HC.out _ (hBd _) _ (heap_new _ _ rfl)).mono ?_; rintro e w5 ⟨v5, rfl, hv5, hb5⟩; obtain ⟨a5, c5, hv5e⟩ := hv5.slice; subst hv5e))
  go_wp2_with fail
  go_ret2
  exact ⟨_, rfl, qH (qC _) hv5 (Keeps.refl _ _) (fun b h _ => zD (hBd _).size h), below_from (hBd _) hb5⟩
 ·skip
  go_enter Tryz.func228, Tryz.ntmps228
  go_wp2_with (go_at_call 277; refine HC1.out.mono ?_; rintro e w2 ⟨rfl, rfl⟩)
  go_region_held3 (fun _ => True) (trivial) ((go_at_call 239; refine (HC.out _ (hBd _) _ (heap_new _ _ rfl)).mono ?_; rintro e w5 ⟨v5, rfl, hv5, hb5⟩; obtain ⟨a5, c5, hv5e⟩ := hv5.slice; subst hv5e))
  go_wp2_with fail
  go_ret2
  exact ⟨_, rfl, qH (qC _) hv5 (Keeps.refl _ _) (fun b h _ => zD (hBd _).size h), below_from (hBd _) hb5⟩
end Go.Proofs.YtcliojeoindceaaGreatDoor
namespace Go.Proofs.YtcliojeoindceaaGreatDoor
open Go.RowKit
open Go.Proofs.Qw
attribute [local go_sem] Oper.semAt_some
attribute [local go_sem] Oper.semAt_some
open _root_.Go.Lib renaming hid → zA
open _root_.Nat renaming le_refl → zC
open _root_.Go renaming bodyPost_ret → zM
structure Kb (n₀ base top : Nat) (W W' : World) : Prop where
 below : Below n₀ W W'
 cells : ∀ k o, base ≤ k → k < top → W.heap[k]? = some o → o.isCells = true → W'.heap[k]? = some o
theorem Kb.t {n₀ base top : Nat} {A B C : World} (h : Kb n₀ base top A B) (k : Kb n₀ base top B C) : Kb n₀ base top A C := ⟨h.below.trans k.below, fun i o hi ht ho hc => k.cells i o hi ht (h.cells i o hi ht ho hc) hc⟩
theorem Kb.of_kp {n₀ base top : Nat} {A B : World} (h : Kp n₀ base A B) : Kb n₀ base top A B := ⟨h.below, fun i o hi _ ho hc => h.cells i o hi ho hc⟩
theorem Kb.b {n₀ base top : Nat} {w : World} (hn : n₀ ≤ w.heap.size) (W : World) (l : Nat) (o o' : Obj) (hl : w.heap.size ≤ l) (h : W.heap[l]? = some o) (hc : o.isCells = false) (hw : o.isWalk = false) : Kb n₀ base top W (W.putObj l o') := .of_kp (Kp.b hn W l o o' hl h hc hw)
theorem Kb.of_below {n₀ base top : Nat} {W W' : World} (hn : n₀ ≤ W.heap.size) (hb : Below W.heap.size W W') : Kb n₀ base top W W' := .of_kp (.of_below hn hb)
theorem Kb.of_top {n₀ base top Z : Nat} {W W' : World} (hn : n₀ ≤ Z) (ht : top ≤ Z) (hb : Below Z W W') : Kb n₀ base top W W' := ⟨hb.mono hn, fun k _ _ hk h _ => (hb.block k (by omega)).trans h⟩
theorem Kb.setCell {n₀ base top : Nat} (W : World) {B o : Nat} (h1 : n₀ ≤ B) (h2 : B < base ∨ top ≤ B) (v : Value) : Kb n₀ base top W (W.setCell ⟨B, o, none⟩ v) :=
 ⟨(Below.refl _ _).setCell h1 _, fun k u hk ht h _ => by rw [Below.heap_setCell _ _ _ _ (by simp; omega)]; exact h⟩
theorem rangeFunc_boxB {P : Program} {F : Fence} {n : Nat} {α : Type} {g : Operand} {ps : Array Tmp} {assign body : Code} {Q : Exit → Act → World → Prop} {a : Act} {w : World}
  (hro : F.round = none) (h1 : 1 ≤ n) {gf : Nat} {lb : Array Value} (hg : a.eval g = .func (.func gf) #[] lb) (hFg : F.fn gf) (eg : ∀ args w, (callFunc gf args).run P w = .ok (.enter gf args) w)
  {encs : α → Array Value} {n₀ base top : Nat} {S Sp : List α → Prop} {N : Nat} {w0 : World} (hseq : SeqStopsK F (n - 1) P gf lb encs (Kb n₀ base top) S Sp N w0)
  (hn : n₀ ≤ w.heap.size) (hb0 : Below w0.heap.size w0 w) (hps : ∀ x, (encs x).size = ps.size)
  (I : List α → World → Prop) (Ix : Code → List α → World → Prop) (hI : OwnFrom w.heap.size I) (hIx : ∀ c, OwnFrom w.heap.size (Ix c)) (h0 : I [] w) (hIz : ∀ pre W, I pre W → w.heap.size ≤ W.heap.size)
  (rc : α → Array Value) (rt : TypeId) (act : Nat → α → Act)
  (hassign : ∀ (l : Nat) (pre : List α) (x : α) (W : World) (K : Act → World → Prop) (Bx : Nat), Bx = W.heap.size → I pre W → K (act Bx x) (W.alloc (.cells (rc x) rt)) →
   assign.wpIn (F.inRound l) (n - 1 - 1) P (Exit.then K (fun _ _ _ => False)) { tmps := (ps.zip (encs x)).foldl (fun t (p, v) => t.setIfInBounds p v) a.tmps, defers := [] } W)
  (hbody : ∀ (l : Nat) (pre : List α) (x : α) (Bx : Nat) (W : World), I pre W → w.heap.size ≤ Bx → W.heap[Bx]? = some (.cells (rc x) rt) → pre.length < N → body.wpIn (F.inRound l) (n - 1 - 1) P (ownPostG w.heap.size (Kb n₀ base top) I Ix (pre ++ [x]) W) (act Bx x) W)
  (hdone : ∀ (D : Nat) (xs : List α) (W : World), w.heap.size ≤ D → S xs → I xs W → W.heap[D]? = some (.deferred (some [])) → Q .normal { a with defers := { target := .collected D, args := #[] } :: a.defers } W)
  (hstop : ∀ (D : Nat) (c : Code) (pre : List α) (W : World), w.heap.size ≤ D → Sp pre → Ix c pre W → W.heap[D]? = some (.deferred (some [])) → c.wpIn F n P Q { a with defers := { target := .collected D, args := #[] } :: a.defers } W) :
  (Code.rangeFunc g ps assign body).wpIn F n P Q a w := by
 refine wpIn_rangeFunc_ownH hro h1 hg hFg eg hseq (fun h k => h.t k) (Kb.b hn) hb0 hps I Ix hI hIx h0
  (fun x a' W => ∃ Bx, w.heap.size ≤ Bx ∧ W.heap[Bx]? = some (.cells (rc x) rt) ∧ a' = act Bx x) ?_ ?_ ?_ hdone hstop
 ·intro x a' _ X Y row hs hg hr
  obtain ⟨Bx, h1, h2, h3⟩ := hs
  exact ⟨Bx, h1, (hg.block Bx (Array.getElem?_eq_some_iff.1 h2).1 (fun e => by obtain ⟨_, o, ho, hc⟩ := hr Bx e.symm; rw [h2] at ho; cases ho; cases hc)).trans h2, h3⟩
 ·intro l pre x W K hi hK
  exact hassign l pre x W K _ rfl hi (hK _ _ ((KeepsOthers.alloc _ _).from _) (Kb.of_below (Nat.le_trans hn (hIz _ _ hi)) ((Below.refl _ _).alloc (zC _) _)) (hI.alloc _ hi) ⟨_, hIz _ _ hi, heap_new _ _ rfl, rfl⟩)
 ·intro l pre x a' W hl hr hi ha hlt
  obtain ⟨Bx, h1, h2, rfl⟩ := ha
  exact hbody l pre x Bx W hi h1 h2 hlt
set_option maxRecDepth 200000 in
theorem between1_inB (n l Bd Ba Bb base top : Nat) (v : Value) (d : Doc) (i p j q : Nat) (S : Nat → Prop) (J Jx : List (RowX d) → World → Prop) (w0 W : World) (hv : LinsR w0 S v d) (hb0 : Below w0.heap.size w0 W)
  (hbase : base ≤ Bd ∧ base ≤ Ba ∧ base ≤ Bb) (htop : Bd < top ∧ Ba < top ∧ Bb < top) (hD : W.heap[Bd]? = some (.cells #[v] 22)) (hA : W.heap[Ba]? = some (.cells #[.int .i64 i, .int .i64 p] 24)) (hB : W.heap[Bb]? = some (.cells #[.int .i64 j, .int .i64 q] 24))
  (hij : i ≤ j) (hj : j < d.length) (hok : ∀ k, i ≤ k → k ≤ j → RowOk d (rowB d i p j q k)) (hlen : d.length ≤ 100000) (hJ : AbidesFrom W.heap.size J)
  (hY : ∀ (pre : List (RowX d)) (x : RowX d) W, J pre W → pre.length < 200000 → YieldAt Fence.wide (n - 1) Tryz.prog l (rowEnc x) W fun e W' =>
   (e = .returned (.bool true) ∧ J (pre ++ [x]) W' ∧ Kb w0.heap.size base top W W') ∨ (e = .returned (.bool false) ∧ Jx (pre ++ [x]) W'))
  (h0 : J [] W) :
  CallsIn Fence.wide n Tryz.prog 296 #[.func (.yield l) #[] #[], .pointer (some ⟨Ba, 0, none⟩), .pointer (some ⟨Bb, 0, none⟩), .pointer (some ⟨Bd, 0, none⟩)] W fun e W' => (∃ v, e = .returned v) ∧
   ((∃ ys : List (RowX d), ys.map (·.1) = rowsTo d i p j q (j + 1) ∧ J ys W') ∨ (∃ pre, True ∧ Jx pre W')) := by
 refine callsIn_of_wp Tryz.func296 rfl trivial ?_ rfl
 simp only [Tryz.ntmps296, List.size_toArray, List.length_cons, List.length_nil, Nat.reduceAdd, Nat.reduceSub, Array.replicate_succ, Array.replicate_zero, List.push_toArray, List.append_toArray, List.nil_append, List.cons_append]
 have hwf : ∀ f, Fence.wide.fn f := fun _ => trivial
 have hwd : Fence.wide.depth = none := rfl
 obtain ⟨va, vc, rfl, hvc, hvm, hx⟩ := lins_shape hv
 have HX := zA hx
 have HY := zA hY
 have HOK := zA hok
 have HJA := zA hJ
 have HBK := zA (And.intro hD (And.intro hA hB))
 obtain ⟨p1, f1⟩ := blk hD
 obtain ⟨p2, f2⟩ := blk hA
 obtain ⟨p3, f3⟩ := blk hB
 unfold maxLen at hvm
 clear hx hv hY hok hJ hD hA hB
 gi_wp2_with fail
 clear p1 f1 p2 f2 p3 f3
 gi_loopw [5, 6, 7] (fun z _ _ wr => ∃ (k : Nat) (pre : List (RowX d)), i ≤ k ∧ k ≤ j + 1 ∧ pre.length ≤ k ∧ z = .int .i64 k ∧ Hid (pre.map (·.1) = rowsTo d i p j q k) ∧ J pre wr ∧ Below w0.heap.size w0 wr ∧ Hid (wr.heap[Bd]? = some (.cells #[.slice va d.length vc] 22) ∧ wr.heap[Ba]? = some (.cells #[.int .i64 i, .int .i64 p] 24) ∧ wr.heap[Bb]? = some (.cells #[.int .i64 j, .int .i64 q] 24)) ∧ W.heap.size ≤ wr.heap.size)
  (fun z _ _ _ => j + 1 - (intOf z).toNat)
 case atStart => exact ⟨i, [], zC _, by omega, Nat.zero_le _, rfl, zA (rowsTo_nil ..).symm, h0, hb0, HBK, zC _⟩
 case round =>
  obtain ⟨k, pre, hk1, hk2, hpl, rfl, HP, hJs, hb1, HBL, hz1⟩ := hrel
  obtain ⟨p1, f1⟩ := blk HBL.out.1
  obtain ⟨p2, f2⟩ := blk HBL.out.2.1
  obtain ⟨p3, f3⟩ := blk HBL.out.2.2
  by_cases hlt : k ≤ j
  ·obtain ⟨l0, hl0, _⟩ := getOf d k (by omega)
   obtain ⟨b, o, la, lc, ca, cc, rfl, hAk⟩ := HX.out k l0 hl0
   obtain ⟨_, c0, c1, c2, c3, _, _⟩ := hAk.below hb1
   have HL0 := zA (rowB_len d (i := i) (p := p) (j := j) (q := q) hl0)
   have hd1 : Below wr.heap.size wr wr.drew := (Below.refl _ _).drew
   have HD1 := zA hd1
   have HJ1 := zA (abides_below (X := wr) (Y := wr.drew) HJA.out hJs hd1)
   have i0 : (0 : Int) ≤ (k : Int) := Int.natCast_nonneg _
   have i1 : (k : Int) < (d.length : Int) := by omega
   have hNext : ∀ w7, J (pre ++ [⟨rowB d i p j q k, HOK.out k hk1 hlt⟩]) w7 → Kb w0.heap.size base top wr.drew w7 → ∃ (k' : Nat) (pre : List (RowX d)), i ≤ k' ∧ k' ≤ j + 1 ∧ pre.length ≤ k' ∧ k' = k + 1 ∧ Hid (pre.map (·.1) = rowsTo d i p j q k') ∧ J pre w7 ∧ Below w0.heap.size w0 w7 ∧ Hid (w7.heap[Bd]? = some (.cells #[.slice (some ⟨b, o, none⟩) d.length vc] 22) ∧ w7.heap[Ba]? = some (.cells #[.int .i64 i, .int .i64 p] 24) ∧ w7.heap[Bb]? = some (.cells #[.int .i64 j, .int .i64 q] 24)) ∧ W.heap.size ≤ w7.heap.size := by
    intro w7 hj7 hk7
    refine ⟨k + 1, _, by omega, by omega, by simp; omega, rfl, zA ?_, hj7, (below_from hb1 HD1.out).trans hk7.below, zA ⟨hk7.cells _ _ hbase.1 htop.1 HBL.out.1 rfl, hk7.cells _ _ hbase.2.1 htop.2.1 HBL.out.2.1 rfl, hk7.cells _ _ hbase.2.2 htop.2.2 HBL.out.2.2 rfl⟩, Nat.le_trans hz1 hk7.below.size⟩
    rw [rowsTo_step d hk1, List.map_append, HP.out]
    rfl
   have HNX := zA hNext
   have hYY := HY.out pre ⟨rowB d i p j q k, HOK.out k hk1 hlt⟩ wr.drew HJ1.out (by omega)
   have hrow : rowEnc (⟨rowB d i p j q k, HOK.out k hk1 hlt⟩ : RowX d) = #[.int .i64 k, .agg #[.int .i64 ((if k = i then p else 0 : Nat) : Int), .int .i64 ((if k = j then q else l0.cells.length : Nat) : Int)]] := by unfold rowEnc; simp only [HL0.out]
   rw [hrow] at hYY
   clear hAk hl0 hNext hJs HJ1 HL0 hrow
   rcases (show k = i ∧ k = j ∨ k = i ∧ ¬ k = j ∨ ¬ k = i ∧ k = j ∨ ¬ k = i ∧ ¬ k = j by omega) with ⟨e1, e2⟩ | ⟨e1, e2⟩ | ⟨e1, e2⟩ | ⟨e1, e2⟩
   ·rw [if_pos e1, if_pos e2] at hYY
    have hq1 : ((k : Int) == (i : Int)) = true := by simp; omega
    have hq2 : ((k : Int) == (j : Int)) = true := by simp; omega
    have hq3 : decide ((k : Int) ≤ (j : Int)) = true := by simp; omega
    try rw [show ((0 : Nat) : Int) = 0 from rfl] at hYY
    obtain ⟨fn, tmps, assign, body, hy, hR⟩ := hYY
    clear e1 e2
    gi_wp2_with fail
    gi_region
    gi_wp2_with fail
    refine hR.mono ?_
    rintro e w7 (⟨rfl, hJ7, hk7⟩ | ⟨rfl, hJx7⟩)
    ·gi_wp2_with fail
     obtain ⟨k', pre', g1, g2, g3, e3, g4, g5, g6, g7, g8⟩ := HNX.out w7 hJ7 hk7
     go_roundw
     case rel => exact ⟨k', pre', g1, g2, g3, by rw [e3]; go_num, g4, g5, g6, g7, g8⟩
     case measure => simp [intOf]; omega
    ·gi_wp2_with fail
     refine zM (results_none rfl _ _ _) rfl ?_
     exact ⟨⟨_, rfl⟩, .inr ⟨_, trivial, hJx7⟩⟩
   ·rw [if_pos e1, if_neg e2] at hYY
    have hq1 : ((k : Int) == (i : Int)) = true := by simp; omega
    have hq2 : ((k : Int) == (j : Int)) = false := by simp; omega
    have hq3 : decide ((k : Int) ≤ (j : Int)) = true := by simp; omega
    try rw [show ((0 : Nat) : Int) = 0 from rfl] at hYY
    obtain ⟨fn, tmps, assign, body, hy, hR⟩ := hYY
    clear e1 e2
    gi_wp2_with fail
    gi_region
    gi_wp2_with fail
    refine hR.mono ?_
    rintro e w7 (⟨rfl, hJ7, hk7⟩ | ⟨rfl, hJx7⟩)
    ·gi_wp2_with fail
     obtain ⟨k', pre', g1, g2, g3, e3, g4, g5, g6, g7, g8⟩ := HNX.out w7 hJ7 hk7
     go_roundw
     case rel => exact ⟨k', pre', g1, g2, g3, by rw [e3]; go_num, g4, g5, g6, g7, g8⟩
     case measure => simp [intOf]; omega
    ·gi_wp2_with fail
     refine zM (results_none rfl _ _ _) rfl ?_
     exact ⟨⟨_, rfl⟩, .inr ⟨_, trivial, hJx7⟩⟩
   ·rw [if_neg e1, if_pos e2] at hYY
    have hq1 : ((k : Int) == (i : Int)) = false := by simp; omega
    have hq2 : ((k : Int) == (j : Int)) = true := by simp; omega
    have hq3 : decide ((k : Int) ≤ (j : Int)) = true := by simp; omega
    try rw [show ((0 : Nat) : Int) = 0 from rfl] at hYY
    obtain ⟨fn, tmps, assign, body, hy, hR⟩ := hYY
    clear e1 e2
    gi_wp2_with fail
    gi_region
    gi_wp2_with fail
    refine hR.mono ?_
    rintro e w7 (⟨rfl, hJ7, hk7⟩ | ⟨rfl, hJx7⟩)
    ·gi_wp2_with fail
     obtain ⟨k', pre', g1, g2, g3, e3, g4, g5, g6, g7, g8⟩ := HNX.out w7 hJ7 hk7
     go_roundw
     case rel => exact ⟨k', pre', g1, g2, g3, by rw [e3]; go_num, g4, g5, g6, g7, g8⟩
     case measure => simp [intOf]; omega
    ·gi_wp2_with fail
     refine zM (results_none rfl _ _ _) rfl ?_
     exact ⟨⟨_, rfl⟩, .inr ⟨_, trivial, hJx7⟩⟩
   ·rw [if_neg e1, if_neg e2] at hYY
    have hq1 : ((k : Int) == (i : Int)) = false := by simp; omega
    have hq2 : ((k : Int) == (j : Int)) = false := by simp; omega
    have hq3 : decide ((k : Int) ≤ (j : Int)) = true := by simp; omega
    try rw [show ((0 : Nat) : Int) = 0 from rfl] at hYY
    obtain ⟨fn, tmps, assign, body, hy, hR⟩ := hYY
    clear e1 e2
    gi_wp2_with fail
    gi_region
    gi_wp2_with fail
    refine hR.mono ?_
    rintro e w7 (⟨rfl, hJ7, hk7⟩ | ⟨rfl, hJx7⟩)
    ·gi_wp2_with fail
     obtain ⟨k', pre', g1, g2, g3, e3, g4, g5, g6, g7, g8⟩ := HNX.out w7 hJ7 hk7
     go_roundw
     case rel => exact ⟨k', pre', g1, g2, g3, by rw [e3]; go_num, g4, g5, g6, g7, g8⟩
     case measure => simp [intOf]; omega
    ·gi_wp2_with fail
     refine zM (results_none rfl _ _ _) rfl ?_
     exact ⟨⟨_, rfl⟩, .inr ⟨_, trivial, hJx7⟩⟩
  ·obtain rfl : k = j + 1 := by omega
   gi_wp2_with fail
   go_end0
   exact ⟨⟨_, rfl⟩, .inl ⟨pre, HP.out, hJs⟩⟩
theorem wpListIn_append_R {F : Fence} {m : Nat} {P : Program} (w : World) {ops : Array Oper} {rest : List Oper} {o : Oper} {a : Act} {Q : Exit → Act → World → Prop} (hgd : o.guard = none) (s x : Operand) (st tx : TypeId)
  (ho : o.op = .call { callee := .builtin .append, args := #[s, x], argTypes := #[st, tx] }) {t : TypeId} {k : Nat} (hT : RowT P st t k) {α : Type} {R : Rd α} (hE : Elt t k R) (n : Nat) (v y : Value) {xs ys : List α} {news : List Value} (hs : a.eval s = v) (hx : a.eval x = y)
  (h1 : SliceR t k R true w (fun b => n ≤ b) v xs) (hn : n ≤ w.heap.size) (hsrc : Src P k tx y ys.length news w) (hnew : NewsR k R w (fun b => n ≤ b) news ys) (hlen : xs.length + ys.length ≤ 100000000)
  (h : ∀ v' w', SliceR t k R true w' (fun b => n ≤ b) v' (xs ++ ys) → Below n w w' → w.grownBy w' v.ownBlock → (v'.ownBlock = v.ownBlock ∨ v'.ownBlock = some w.heap.size) → wpListIn F m P ops Q rest (a.put o.dst v') w') :
  wpListIn F m P ops Q (o :: rest) a w := by
 refine wpListIn_plain hgd fun K hK => ?_
 obtain ⟨v', w', hr, h2, h3, h4, h5⟩ := append_R (P := P) (ty := o.type) hT hE h1 hn hsrc hnew hlen
 unfold Oper.wpIn
 refine ⟨?_, ?_⟩
 ·simp [Oper.about, ho, resolve, Target.leads, Sem.run_pure]
 ·rw [Oper.semAt_plain F _ _ (by rw [ho]; intro c hc'; cases hc')]
  simp [execOp, ho, resolve, invoke, builtin, hs, hx, hr, Result.andThen]
  exact hK _ _ (h v' w' h2 h3 h4 h5)
theorem append_keeps {α : Type} {t : TypeId} {k : Nat} {R : Rd α} {w w' : World} {S : Nat → Prop} {v : Value} {xs : List α} (h : SliceR t k R true w S v xs) (hne : v = .slice none 0 0 ∨ xs ≠ []) (hg : w.grownBy w' v.ownBlock) : KeepsOthers w w' :=
 KeepsOthers.of_grownBy hg fun j o ej hj => by
  obtain ⟨a, c, rfl, _, _, hx⟩ := h
  rcases hx with ⟨rfl, hc0⟩ | ⟨b, o', rfl, _, _, hf, _⟩
  ·rcases hne with e | e
   ·cases e
    cases ej
   ·exact absurd rfl e
  ·obtain ⟨cs, h1, _⟩ := hf rfl
   have ej : some b = some j := ej
   cases ej
   rw [h1] at hj
   cases hj
   rfl
end Go.Proofs.YtcliojeoindceaaGreatDoor
namespace Go.Proofs.YtcliojeoindceaaGreatDoor
open Go.RowKit
open Go.Proofs.Qw
attribute [local go_sem] Oper.semAt_some
open _root_.Go.Lib renaming hid → zA
open _root_.And renaming intro → zB
open _root_.Nat renaming le_refl → zC, le_trans → zD
open _root_.Go.RowKit.Below renaming refl → zE
open _root_.List renaming getElem?_eq_some_iff → zK
open _root_.Array renaming getElem?_eq_some_iff → zL
open _root_.Go renaming wpAnyH_take → zP
open _root_.Int renaming natCast_nonneg → zR
open _root_.Go.Act renaming put → zU
open _root_.Go.Proofs.YtcliojeoindceaaGreatDoor renaming heap_below → zY
open _root_.Go.Proofs.Qw renaming rdLin_stable → qB, rdOf_stable → qC
set_option maxRecDepth 100000 in
theorem cellsPart_any (ca : Option Addr) (cc : Nat) (cs : List Cel) (xf xt : Nat) (w w0 : World) (S : Nat → Prop) (h : CelsR false w0 S (.slice ca cs.length cc) cs) (h0 : Below w0.heap.size w0 w) (h1 : xf ≤ xt) (h2 : xt ≤ cs.length) (hs : cs.length ≤ 1000000) :
  Calls Tryz.prog 266 #[.slice ca cs.length cc, .int .i64 xf, .int .i64 xt] w (CellsSaid ((cs.drop xf).take (xt - xf)) 0 w) := by
 have hw : CelsR false w S (.slice ca cs.length cc) cs := SliceR.below (qC _) h h0
 have HC1 := zA (cellsSpan_any _ cs xf xt w S false hw)
 have hsp : spanC cs.length xf xt = true := by unfold spanC; simp; omega
 rw [hsp] at HC1
 obtain ⟨_, hccl, hccm⟩ := hw.len
 obtain ⟨row, hrow⟩ : ∃ row, (cs.drop xf).take (xt - xf) = row := ⟨_, rfl⟩
 have hrl : row.length = xt - xf := by rw [← hrow, List.length_take, List.length_drop]; omega
 have hh : CelsR false w S (sliced ca xf xt cc 3) row := by
  rw [← hrow]
  exact hw.part (i := xf) (j := xt) (m := cc) h1 h2 (by omega) (zC _)
 rw [hrow]
 have HC2 := zA (cloneCell_any _ row false w w S hh (zE _ _) (by omega))
 unfold sliced at HC2
 unfold maxLen at hccm
 have u0 : (0 : Int) ≤ (xf : Int) := zR _
 have u1 : (xf : Int) ≤ (xt : Int) := by omega
 have u2 : (xt : Int) ≤ (cc : Int) := by omega
 clear h hw hsp hrow hrl hh
 by_cases hcq : cc = xf
 ·subst hcq
  have hee : xt = cc := by omega
  subst hee
  rw [if_pos rfl, Nat.sub_self] at HC2
  go_enter Tryz.func266, Tryz.ntmps266
  go_wp2_with (first | (go_at_call 277; refine HC1.out.mono ?_; rintro e w2 ⟨rfl, rfl⟩) | (go_at_call 220; refine HC2.out.mono ?_; rintro e w3 ⟨v3, rfl, hv3, hb3⟩; obtain ⟨a3, c3, rfl⟩ := hv3.slice; have HV := zA hv3; have HB := zA hb3; clear hv3 hb3))
  go_ret2
  exact ⟨_, rfl, HV.out, HB.out⟩
 ·rw [if_neg hcq] at HC2
  go_enter Tryz.func266, Tryz.ntmps266
  go_wp2_with (first | (go_at_call 277; refine HC1.out.mono ?_; rintro e w2 ⟨rfl, rfl⟩) | (go_at_call 220; refine HC2.out.mono ?_; rintro e w3 ⟨v3, rfl, hv3, hb3⟩; obtain ⟨a3, c3, rfl⟩ := hv3.slice; have HV := zA hv3; have HB := zA hb3; clear hv3 hb3))
  go_ret2
  exact ⟨_, rfl, HV.out, HB.out⟩
theorem slice_any {α : Type} {t : TypeId} {k : Nat} {R : Rd α} {own : Bool} {w : World} {S : Nat → Prop} {v : Value} {xs : List α} (h : SliceR t k R own w S v xs) : ∃ a n c, v = .slice a n c := by
 obtain ⟨a, c, e⟩ := h.slice
 exact ⟨a, _, c, e⟩
def PI (d : Doc) (dv : Value) (w : World) (Bo Z : Nat) (pre : List (RowX d)) (W : World) : Prop :=
 ∃ v, W.heap[Bo]? = some (.cells #[v] 22) ∧ DocR true W (fun b => Z ≤ b) v (pre.map fun y => partOf d y.1) ∧ W.heap[w.heap.size]? = some (.cells #[dv] 22) ∧ (v = .slice none 0 0 ∨ (pre.map fun y => partOf d y.1) ≠ []) ∧ Below w.heap.size w W ∧ Z ≤ W.heap.size
theorem pi_own {d : Doc} {dv : Value} {w : World} {Bo Z B : Nat} (hB : w.heap.size ≤ B) : OwnFrom B (PI d dv w Bo Z) := fun s X Y row ⟨v, h1, h2, h3, h4, h5, h6⟩ hg hr =>
 ⟨v, blk_own B _ _ _ s X Y row h1 hg hr, doc_own B _ v (fun s : List (RowX d) => s.map fun y => partOf d y.1) s X Y row h2 hg hr, blk_own B _ _ _ s X Y row h3 hg hr, h4, ownFrom_below (zC _) hB s X Y row h5 hg hr, ownFrom_size B _ s X Y row h6 hg hr⟩
set_option maxRecDepth 200000 in
theorem docPart_any (v : Value) (d : Doc) (a b : Ps) (w : World) (S : Nat → Prop) (h : LinsR w S v d) (he : EnvT w) (hs : Small d) (hf : Fits d) :
  Calls Tryz.prog 205 #[v, posV a, posV b] w (DocSaid (partD d a b) w) := by
 obtain ⟨W1, hW1⟩ : ∃ W1, ((w.alloc (.cells #[v] 22)).alloc (.cells #[.int .i64 a.line, .int .i64 a.col] 24)).alloc (.cells #[.int .i64 b.line, .int .i64 b.col] 24) = W1 := ⟨_, rfl⟩
 have hB : Below w.heap.size w W1 := hW1 ▸ (((zE _ _).alloc (zC _) _).alloc (by simp) _).alloc (by simp; omega) _
 have hz : w.heap.size + 3 = W1.heap.size := by rw [← hW1]; simp
 have k0 : W1.heap[w.heap.size]? = some (.cells #[v] 22) := hW1 ▸ heap_old _ _ (heap_old _ _ (heap_new _ _ rfl))
 have k1 : W1.heap[w.heap.size + 1]? = some (.cells #[.int .i64 a.line, .int .i64 a.col] 24) := hW1 ▸ heap_old _ _ (heap_new _ _ (by simp))
 have k2 : W1.heap[w.heap.size + 1 + 1]? = some (.cells #[.int .i64 b.line, .int .i64 b.col] 24) := hW1 ▸ heap_new _ _ (by simp)
 have HC1 := zA (docSpan_any v d a b W1 S (h.below (qB _) hB) (he.below hB) hs)
 have HB : Hid (∀ W, Below W1.heap.size W1 W → W.heap[w.heap.size]? = some (.cells #[v] 22) ∧ W.heap[w.heap.size + 1]? = some (.cells #[.int .i64 a.line, .int .i64 a.col] 24) ∧ W.heap[w.heap.size + 1 + 1]? = some (.cells #[.int .i64 b.line, .int .i64 b.col] 24)) := zA fun W hW => ⟨zY hW k0, zY hW k1, zY hW k2⟩
 have HP : Hid (∀ p : Ps, posV p = .agg #[.int .i64 p.line, .int .i64 p.col]) := zA fun _ => rfl
 have H1 := zA hB
 have HL := zA h
 have HF := zA hf
 have HS := zA hs
 have hlen := hf.1
 have hs1 := hB.size
 obtain ⟨p0, f0⟩ := blk k0
 obtain ⟨p1, f1⟩ := blk k1
 obtain ⟨p2, f2⟩ := blk k2
 obtain ⟨va, vc, rfl⟩ := h.slice
 clear h he hs hf k0 k1 k2 hB
 cases hsp : spanD d a b
 ·have HR : Hid (partD d a b = ([], 1)) := zA (by unfold partD; rw [hsp]; rfl)
  rw [hsp] at HC1
  clear hsp
  rw [HP.out a, HP.out b] at HC1 ⊢
  go_enter Tryz.func205, Tryz.ntmps205
  go_wp2_with (go_at_call 227; refine HC1.out.mono ?_; rintro e w2 ⟨rfl, hb2⟩)
  go_ret2
  unfold DocSaid
  rw [HR.out]
  exact ⟨_, rfl, SliceR.nil _ _ _ _ _ _, H1.out.trans (hb2.mono hs1)⟩
 obtain ⟨_, i, j, p, q, l, m, rfl, rfl, hl, hm, hp, hq, hij, hpq⟩ := span_at hsp
 have hjl := (zK.1 hm).1
 have HR : Hid (partD d ⟨i, p⟩ ⟨j, q⟩ = ((rowsTo d i p j q (j + 1)).map (partOf d), 0)) := zA (by unfold partD; rw [hsp, if_pos rfl]; rfl)
 have HOK : Hid (∀ k, i ≤ k → k ≤ j → RowOk d (rowB d i p j q k)) := zA fun k h1 h2 => rowB_ok hl hm hp hq hpq h1 h2
 rw [hsp] at HC1
 clear hsp hl hm hp hq hpq
 rw [HP.out, HP.out] at HC1 ⊢
 refine (callsIn_wide (n := 6)).1 ?_
 refine callsIn_of_wp_marks Tryz.func205 rfl trivial ?_ rfl
 simp only [Tryz.ntmps205, List.size_toArray, List.length_cons, List.length_nil, Nat.reduceAdd, Nat.reduceSub, Array.replicate_succ, Array.replicate_zero, List.push_toArray, List.append_toArray, List.nil_append, List.cons_append]
 have hwf : ∀ f, Fence.wide.fn f := fun _ => trivial
 have hwd : Fence.wide.depth = none := rfl
 gi_wp2_with (first
  | (gi_at_call 227; refine (callsIn_wide.2 HC1.out).mono ?_; rintro e w2 ⟨rfl, hb2⟩; obtain ⟨q0, g0⟩ := blk (HB.out _ hb2).1; obtain ⟨q1, g1⟩ := blk (HB.out _ hb2).2.1; obtain ⟨q2, g2⟩ := blk (HB.out _ hb2).2.2; have r0 := cell_on (q0 0); have r1 := cell_on (q1 0); have r2 := cell_on (q1 1); have r3 := cell_on (q2 0); have r4 := cell_on (q2 1))
  | (gi_at_call 263; refine (callsIn_wide.2 (between_any _ _ _ _ _ _ _ _)).mono ?_; rintro e w5 ⟨rfl, rfl⟩))
 have hx2 : Below w.heap.size w w2 := H1.out.trans (hb2.mono hs1)
 have hz2 := hb2.size
 obtain ⟨w6, hw6⟩ : ∃ w6, (((w2.alloc (.cells #[.slice none 0 0] 22)).alloc (.cells #[.slice va d.length vc] 22)).alloc (.cells #[.int .i64 i, .int .i64 p] 24)).alloc (.cells #[.int .i64 j, .int .i64 q] 24) = w6 := ⟨_, rfl⟩
 rw [hw6]
 obtain ⟨t0, t1, t2⟩ := HB.out _ hb2
 have hb26 : Below w2.heap.size w2 w6 := hw6 ▸ ((((zE _ _).alloc (zC _) _).alloc (by simp) _).alloc (by simp; omega) _).alloc (by simp; omega) _
 have hz6 : w6.heap.size = w2.heap.size + 4 := by rw [← hw6]; simp
 have m0 : w6.heap[w2.heap.size]? = some (.cells #[.slice none 0 0] 22) := hw6 ▸ heap_old _ _ (heap_old _ _ (heap_old _ _ (heap_new _ _ rfl)))
 have n0 : w6.heap[w2.heap.size + 1]? = some (.cells #[.slice va d.length vc] 22) := hw6 ▸ heap_old _ _ (heap_old _ _ (heap_new _ _ (by simp)))
 have n1 : w6.heap[w2.heap.size + 1 + 1]? = some (.cells #[.int .i64 i, .int .i64 p] 24) := hw6 ▸ heap_old _ _ (heap_new _ _ (by simp))
 have n2 : w6.heap[w2.heap.size + 1 + 2]? = some (.cells #[.int .i64 j, .int .i64 q] 24) := hw6 ▸ heap_new _ _ (by simp)
 have hb6 : Below w.heap.size w w6 := hx2.trans (hb26.mono (by omega))
 have hPI : PI d (.slice va d.length vc) w w2.heap.size w6.heap.size [] w6 := ⟨_, m0, SliceR.nil _ _ _ _ _ _, zY hb26 t0, .inl rfl, hb6, zC _⟩
 clear hw6 q0 q1 q2 g0 g1 g2 p0 f0 p1 p2 f1 f2 t0 t1 t2 r0 r1 r2 r3 r4 hW1 m0
 have N0 := zA (zB n0 (zB n1 n2))
 clear n0 n1 n2
 refine rangeFunc_boxB rfl (by omega) (gf := 296) (lb := #[.pointer (some ⟨w2.heap.size + 1 + 1, 0, none⟩), .pointer (some ⟨w2.heap.size + 1 + 2, 0, none⟩), .pointer (some ⟨w2.heap.size + 1, 0, none⟩)]) rfl trivial (enters_of Tryz.func296 (by kernel_rfl) rfl)
  (encs := rowEnc (d := d)) (n₀ := w.heap.size) (base := w2.heap.size + 1) (top := w6.heap.size) (S := fun ys => ys.map (·.1) = rowsTo d i p j q (j + 1)) (Sp := fun _ => True) (N := 200000) (w0 := w6) ?seq (by omega) (zE _ _) (fun _ => rfl)
  (PI d (.slice va d.length vc) w w2.heap.size w6.heap.size) (fun _ _ _ => False) (pi_own (by omega)) (fun _ _ _ _ _ hs _ _ => hs) hPI (fun _ _ ⟨_, _, _, _, _, _, h⟩ => h)
  (fun x => #[.int .i64 x.1.2.1, .int .i64 x.1.2.2]) 223 ?act ?assign ?body ?done ?stop
 case seq =>
  intro l J Jx W hW hJ _ hY h0
  exact between1_inB 5 l (w2.heap.size + 1) (w2.heap.size + 1 + 1) (w2.heap.size + 1 + 2) (w2.heap.size + 1) w6.heap.size (.slice va d.length vc) d i p j q S J Jx w W HL.out (hb6.trans (hW.mono hb6.size)) ⟨by omega, by omega, by omega⟩ ⟨by omega, by omega, by omega⟩ (zY hW N0.out.1) (zY hW N0.out.2.1) (zY hW N0.out.2.2) hij hjl HOK.out HS.out.2.1 hJ hY h0
 case assign =>
  intro l pre x W K Bx hBx hI hK
  gi_wp2
  rw [← hBx]
  exact hK
 case body =>
  intro l pre x Bx W hI hBx hbx hlt
  obtain ⟨v0, t0, hD, td, hne, hb, hz⟩ := hI
  obtain ⟨ln, hln, hft, htl⟩ := x.2
  obtain ⟨xi, exi⟩ : ∃ z, x.1.1 = z := ⟨_, rfl⟩
  obtain ⟨xf, exf⟩ : ∃ z, x.1.2.1 = z := ⟨_, rfl⟩
  obtain ⟨xt, ext⟩ : ∃ z, x.1.2.2 = z := ⟨_, rfl⟩
  have hpo := partOf_at hln
  obtain ⟨row, hrow⟩ : ∃ row, (ln.cells.drop xf).take (xt - xf) = row := ⟨_, rfl⟩
  rw [exf, ext, hrow] at hpo
  have HT : Hid ((pre ++ [x]).map (fun y => partOf d y.1) = pre.map (fun y => partOf d y.1) ++ [{ ln with cells := row }]) := zA (by rw [List.map_append, List.map_singleton, hpo])
  rw [exi] at hln
  rw [exf, ext] at hft hbx
  rw [ext] at htl
  rw [exi, exf, ext]
  clear exi exf ext hpo
  have hil := (zK.1 hln).1
  have hfl := HF.out.2 ln (List.mem_of_getElem? hln)
  obtain ⟨va', vc', hve, hvc, hvm, hx⟩ := lins_shape HL.out
  cases hve
  obtain ⟨b1, o1, la, lc, ca, cc, rfl, hAk⟩ := hx xi ln hln
  have HFM : Hid (∀ W', Below W.heap.size W W' → Calls Tryz.prog 265 #[linV ln (.slice la ln.lists.length lc) (.slice ca ln.cells.length cc)] W' fun e w' => ∃ a', e = .returned (linV ln a' (.slice none 0 0)) ∧ IntsR true w' (fun b => W'.heap.size ≤ b) a' ln.lists ∧ Below W'.heap.size W' w') := zA fun W' hW => lineFrame_any ln _ _ false false W' w S hAk.listsR hAk.cellsR (below_from hb hW) hfl
  have HCP : Hid (∀ W', Below W.heap.size W W' → Calls Tryz.prog 266 #[.slice ca ln.cells.length cc, .int .i64 xf, .int .i64 xt] W' (CellsSaid row 0 W')) := zA fun W' hW => by
   have := cellsPart_any ca cc ln.cells xf xt W' w S hAk.cellsR (below_from hb hW) hft htl hfl.2
   rwa [hrow] at this
  have hlt1 := hAk.lt
  have hbz := hb.size
  obtain ⟨hz4, c0, c1, c2, c3, _, _⟩ := hAk.below hb
  obtain ⟨s0, s0f⟩ := blk t0
  obtain ⟨sd, sdf⟩ := blk td
  obtain ⟨sx, sxf⟩ := blk hbx
  unfold maxLen at hvm
  have i0 : (0 : Int) ≤ (xi : Int) := zR _
  have i1 : (xi : Int) < (d.length : Int) := by omega
  have hw0 : Below W.heap.size W W := zE _ _
  have HA := zA (zB t0 (zB td hbx))
  have HD := zA (SliceR.bounded (qB true) hD)
  have HNE := zA hne
  have HIN := zA (zB hb hz)
  have HC3 := zA c3
  have hbxl := (zL.1 hbx).1
  clear hD hrow hln hfl hft htl hx hAk t0 td hbx hne hvc
  unfold linV at HFM
  gi_wp2_with (gi_at_call 265; refine (callsIn_wide.2 (HFM.out _ hw0)).mono ?_; rintro e w4 ⟨a', rfl, ha4, hb4⟩; obtain ⟨a4, c4, rfl⟩ := ha4.slice; have HI4 := zA (SliceR.bounded (qC _) ha4); clear ha4)
  obtain ⟨w5, hw5⟩ : ∃ X, w4.alloc (.cells #[.int .i64 ln.quote, .slice a4 ln.lists.length c4, .int .i64 ln.kind, .slice none 0 0] 60) = X := ⟨_, rfl⟩
  rw [hw5]
  have hb45 : Below w4.heap.size w4 w5 := hw5 ▸ (zE _ _).alloc (zC _) _
  have m5 : w5.heap[w4.heap.size]? = some (.cells #[.int .i64 ln.quote, .slice a4 ln.lists.length c4, .int .i64 ln.kind, .slice none 0 0] 60) := hw5 ▸ heap_new _ _ rfl
  have hzW4 := hb4.size
  have hb5 : Below W.heap.size W w5 := below_from hb4 hb45
  have hd5 : Below W.heap.size W w5.drew := hb5.drew
  have HC5 := zA (HCP.out w5.drew hd5)
  obtain ⟨u0, u0f⟩ := blk (zY hb5 HA.out.2.1)
  obtain ⟨ux, uxf⟩ := blk (zY hb5 HA.out.2.2)
  have u3 : w5.cell? ⟨b1, o1 + xi * 4 + 3, none⟩ = some (.slice ca ln.cells.length cc) := (hb5.cell (p := ⟨b1, o1 + xi * 4 + 3, none⟩) hz4).trans HC3.out
  have e1 : w4.heap.size ≠ w.heap.size := by omega
  have e2 : w4.heap.size ≠ b1 := by omega
  have e3 : w4.heap.size ≠ Bx := by omega
  clear s0 s0f sd sdf sx sxf c0 c1 c2 c3 hw5 HFM HCP
  refine wpIn_region_heldR (by kernel_rfl) (by kernel_rfl) (S := fun w' => w'.cell? ⟨w.heap.size, 0, none⟩ = some (.slice (some ⟨b1, o1, none⟩) d.length vc) ∧ w'.cell? ⟨b1, o1 + xi * 4 + 3, none⟩ = some (.slice ca ln.cells.length cc) ∧ w'.cell? ⟨Bx, 0, none⟩ = some (.int .i64 xf) ∧ w'.cell? ⟨Bx, 1, none⟩ = some (.int .i64 xt)) ⟨u0 0, u3, ux 0, ux 1⟩ (fun R hR hHeld => ?_)
  refine zP (i := 0) (v := ?_) (by simp only [qA, qZ]; rfl) (by kernel_rfl) (by kernel_rfl) (by kernel_rfl) (fun _ _ _ h => h) (Or.inl ⟨by rfl, ?_⟩) (by assumption) ?_
  rotate_left 1
  ·intro w hSw; (try dsimp only at hSw); go_simp; (first | done | with_reducible rfl)
  try simp only [zU, qI, qX, qY]
  refine zP (i := 1) (v := ?_) (by simp only [qA, qS, qZ]; rfl) (by kernel_rfl) (by kernel_rfl) (by kernel_rfl) (fun _ _ _ h => h) (Or.inl ⟨by rfl, ?_⟩) (by assumption) ?_
  rotate_left 1
  ·intro w hSw; (try dsimp only at hSw); go_simp; (first | done | with_reducible rfl)
  try simp only [zU, qI, qX, qY]
  refine zP (i := 2) (v := ?_) (by simp only [qA, qS, qZ]; rfl) (by kernel_rfl) (by kernel_rfl) (by kernel_rfl) (fun _ _ _ h => h) (Or.inl ⟨by rfl, ?_⟩) (by assumption) ?_
  rotate_left 1
  ·intro w hSw; (try dsimp only at hSw); go_simp; (first | done | with_reducible rfl)
  try simp only [zU, qI, qX, qY]
  refine zP (i := 3) (v := ?_) (by simp only [qA, qS, qZ]; rfl) (by kernel_rfl) (by kernel_rfl) (by kernel_rfl) (fun _ _ _ h => h) (Or.inl ⟨by rfl, ?_⟩) (by assumption) ?_
  rotate_left 1
  ·intro w hSw; (try dsimp only at hSw); go_simp; (first | done | with_reducible rfl)
  try simp only [zU, qI, qX, qY]
  refine zP (i := 4) (v := ?_) (by simp only [qA, qS, qZ]; rfl) (by kernel_rfl) (by kernel_rfl) (by kernel_rfl) (fun _ _ _ h => h) (Or.inl ⟨by rfl, ?_⟩) (by assumption) ?_
  rotate_left 1
  ·intro w hSw; (try dsimp only at hSw); go_simp; (first | done | with_reducible rfl)
  try simp only [zU, qI, qX, qY]
  refine zP (i := 5) (v := ?_) (by simp only [qA, qS, qZ]; rfl) (by kernel_rfl) (by kernel_rfl) (by kernel_rfl) (fun _ _ _ h => h) (Or.inl ⟨by rfl, ?_⟩) (by assumption) ?_
  rotate_left 1
  ·intro w hSw; (try dsimp only at hSw); go_simp; (first | done | with_reducible rfl)
  try simp only [zU, qI, qX, qY]
  refine zP (i := 6) (v := ?_) (by simp only [qA, qS, qZ]; rfl) (by kernel_rfl) (by kernel_rfl) (by kernel_rfl) (fun _ _ _ h => h) (Or.inl ⟨by rfl, ?_⟩) (by assumption) ?_
  rotate_left 1
  ·intro w hSw; (try dsimp only at hSw); go_simp; (first | done | with_reducible rfl)
  try simp only [zU, qI, qX, qY]
  refine zP (i := 7) (v := ?_) (by simp only [qA, qS, qZ]; rfl) (by kernel_rfl) (by kernel_rfl) (by kernel_rfl) (fun _ _ _ h => h) (Or.inl ⟨by rfl, ?_⟩) (by assumption) ?_
  rotate_left 1
  ·intro w hSw; (try dsimp only at hSw); go_simp; (first | done | with_reducible rfl)
  try simp only [zU, qI, qX, qY]
  refine zP (i := 8) (v := ?_) (by simp only [qA, qS, qZ]; rfl) (by kernel_rfl) (by kernel_rfl) (by kernel_rfl) (fun _ _ _ h => h) (Or.inl ⟨by rfl, ?_⟩) (by assumption) ?_
  rotate_left 1
  ·intro w hSw; (try dsimp only at hSw); go_simp; (first | done | with_reducible rfl)
  try simp only [zU, qI, qX, qY]
  refine wpAnyH_ready (rs := [9]) (by kernel_rfl) (by simp) ?_
  refine AllReadyH.cons (by simp only [qA, qS, qZ]; rfl) (fun K hK => ?_) AllReadyH.nil
  go_simp
  refine HC5.out.mono ?_
  intro e w6' hsaid
  obtain ⟨v6, rfl, hv6, hb6'⟩ := hsaid
  have hb56 : Below w5.heap.size w5 w6' := ((zE _ _).drew).trans hb6'
  obtain ⟨a6, c6, rfl⟩ := hv6.slice
  have HV6 : Hid (CelsR true w6' (fun b => w5.heap.size ≤ b) (.slice a6 row.length c6) row) := zA (SliceR.stable (qC _) hv6 (Keeps.refl _ _) (fun b hb' _ => hb'))
  have hbW6 : Below W.heap.size W w6' := below_from hb5 hb56
  have hb46 : Below w4.heap.size w4 w6' := below_from hb45 hb56
  have m6 := zY hb56 m5
  obtain ⟨y0, y0f⟩ := blk (zY hbW6 HA.out.2.1)
  obtain ⟨yx, yxf⟩ := blk (zY hbW6 HA.out.2.2)
  obtain ⟨r6, s6⟩ := blk m6
  have y3 : w6'.cell? ⟨b1, o1 + xi * 4 + 3, none⟩ = some (.slice ca ln.cells.length cc) := (hbW6.cell (p := ⟨b1, o1 + xi * 4 + 3, none⟩) hz4).trans HC3.out
  have hS6 : w6'.cell? ⟨w.heap.size, 0, none⟩ = some (.slice (some ⟨b1, o1, none⟩) d.length vc) ∧ w6'.cell? ⟨b1, o1 + xi * 4 + 3, none⟩ = some (.slice ca ln.cells.length cc) ∧ w6'.cell? ⟨Bx, 0, none⟩ = some (.int .i64 xf) ∧ w6'.cell? ⟨Bx, 1, none⟩ = some (.int .i64 xt) := ⟨y0 0, y3, yx 0, yx 1⟩
  clear hv6 hb6' u0 u0f ux uxf u3
  refine hK.out _ _ hS6 (fun hHeld => ?_)
  clear hK K
  try simp only [zU, qI, qX, qY]
  refine zP (i := 10) (v := ?_) (by simp only [qA, qS, qZ]; rfl) (by kernel_rfl) (by kernel_rfl) (by kernel_rfl) (fun _ _ _ h => h) (Or.inl ⟨by rfl, ?_⟩) (by assumption) ?_
  rotate_left 1
  ·intro w hSw; (try dsimp only at hSw); go_simp; (first | done | with_reducible rfl)
  try simp only [zU, qI, qX, qY]
  refine zP (i := 11) (v := ?_) (by simp only [qA, qS, qZ]; rfl) (by kernel_rfl) (by kernel_rfl) (by kernel_rfl) (fun _ _ _ h => h) (Or.inl ⟨by rfl, ?_⟩) (by assumption) ?_
  rotate_left 1
  ·intro w hSw; (try dsimp only at hSw); go_simp; (first | done | with_reducible rfl)
  try simp only [zU, qI, qX, qY]
  refine zP (i := 12) (v := ?_) (by simp only [qA, qS, qZ]; rfl) (by kernel_rfl) (by kernel_rfl) (by kernel_rfl) (fun _ _ _ h => h) (Or.inl ⟨by rfl, ?_⟩) (by assumption) ?_
  rotate_left 1
  ·intro w hSw; (try dsimp only at hSw); go_simp; (first | done | with_reducible rfl)
  try simp only [zU, qI, qX, qY]
  refine zP (i := 13) (v := ?_) (by simp only [qA, qS, qZ]; rfl) (by kernel_rfl) (by kernel_rfl) (by kernel_rfl) (fun _ _ _ h => h) (Or.inl ⟨by rfl, ?_⟩) (by assumption) ?_
  rotate_left 1
  ·intro w hSw; (try dsimp only at hSw); go_simp; (first | done | with_reducible rfl)
  try simp only [zU, qI, qX, qY]
  refine wpAnyH_ready (rs := [14]) (by kernel_rfl) (by simp) ?_
  refine AllReadyH.cons (by simp only [qA, qS, qZ]; rfl) (fun K hK => ?_) AllReadyH.nil
  go_simp
  have hS7 : (w6'.setCell ⟨w4.heap.size, 3, none⟩ (.slice a6 row.length c6)).cell? ⟨w.heap.size, 0, none⟩ = some (.slice (some ⟨b1, o1, none⟩) d.length vc) ∧ (w6'.setCell ⟨w4.heap.size, 3, none⟩ (.slice a6 row.length c6)).cell? ⟨b1, o1 + xi * 4 + 3, none⟩ = some (.slice ca ln.cells.length cc) ∧ (w6'.setCell ⟨w4.heap.size, 3, none⟩ (.slice a6 row.length c6)).cell? ⟨Bx, 0, none⟩ = some (.int .i64 xf) ∧ (w6'.setCell ⟨w4.heap.size, 3, none⟩ (.slice a6 row.length c6)).cell? ⟨Bx, 1, none⟩ = some (.int .i64 xt) :=
   ⟨(setCell_block e1).trans hS6.1, (setCell_block e2).trans hS6.2.1, (setCell_block e3).trans hS6.2.2.1, (setCell_block e3).trans hS6.2.2.2⟩
  refine hK.out _ _ hS7 (fun _ => ?_)
  refine wpAnyH_done (by kernel_rfl) ?_ _
  refine hR.out _ _ ?_
  clear hK K hS6 hS7 y0 y0f yx yxf y3
  have hz45 := hb45.size
  have hz56 := hb56.size
  obtain ⟨z0, z0f⟩ := blk (zY hbW6 HA.out.1)
  have e4 : ¬ w4.heap.size = w2.heap.size := by omega
  have e5 : w4.heap.size ≠ w2.heap.size := e4
  have hw2Z : w2.heap.size < w6.heap.size := by omega
  have hb7 : ∀ u ob, Below W.heap.size W ((w6'.setCell ⟨w4.heap.size, 3, none⟩ u).alloc ob) := fun u ob => (hbW6.setCell (by show W.heap.size ≤ w4.heap.size; omega) _).alloc (by simp; omega) _
  have HB7 := zA hb7
  have HD7 : Hid (∀ u ob, DocR true ((w6'.setCell ⟨w4.heap.size, 3, none⟩ u).alloc ob) (fun b => w6.heap.size ≤ b) v0 (pre.map fun y => partOf d y.1)) := zA fun u ob => HD.out.stable (qB true) (.all (hb7 u ob)) (fun _ h _ => h.1)
  have HM7 : Hid (∀ u ob, ((w6'.setCell ⟨w4.heap.size, 3, none⟩ u).alloc ob).heap[w2.heap.size]? = some (.cells #[v0] 22)) := zA fun u ob => zY (hb7 u ob) HA.out.1
  have hzz7 : ∀ u ob, w6.heap.size ≤ ((w6'.setCell ⟨w4.heap.size, 3, none⟩ u).alloc ob).heap.size := fun u ob => zD HIN.out.2 (hb7 u ob).size
  have HZ7 := zA hzz7
  have hl7 : (pre.map fun y => partOf d y.1).length + 1 ≤ 100000000 := by rw [List.length_map]; omega
  have HN7 : Hid (∀ ob, NewsR 4 (rdLin true) ((w6'.setCell ⟨w4.heap.size, 3, none⟩ (.slice a6 row.length c6)).alloc ob) (fun b => w6.heap.size ≤ b) [.int .i64 ln.quote, .slice a4 ln.lists.length c4, .int .i64 ln.kind, .slice a6 row.length c6] [{ ln with cells := row }]) := zA fun ob =>
   NewsR.one rfl ⟨_, _, rfl, HI4.out.stable (qC _) (((Keeps.all hb46).set (fun hh => (Nat.lt_irrefl _) hh.2) _).alloc _) (fun b h _ => zD HIN.out.2 h.1), HV6.out.stable (qC _) (((Keeps.refl _ _).set (fun hh => by have hh : w5.heap.size ≤ w4.heap.size := hh; have := (zL.1 m5).1; omega) _).alloc _) (fun b h _ => by have h : w5.heap.size ≤ b := h; have := HIN.out.2; omega)⟩
  clear hb7 hzz7
  gi_wp2_with (gi_at_builtin; go_must (refine wpListIn_append_R _ rfl _ _ 22 22 rfl rowLine eltLine w6.heap.size v0 _ (xs := pre.map (fun y : RowX d => partOf d y.1)) (ys := [{ ln with cells := row }]) (news := [.int .i64 ln.quote, .slice a4 ln.lists.length c4, .int .i64 ln.kind, .slice a6 row.length c6]) rfl rfl (HD7.out _ _) (HZ7.out _ _) (src_at rowLine (w6'.setCell ⟨w4.heap.size, 3, none⟩ (.slice a6 row.length c6)) _ rfl (oneV_line _ _ _ _ _ _ _) 1 (by simp)) (HN7.out _) hl7 ?_); intro v' w8 hR8 hB8 hG8 _; rw [← HT.out] at hR8; obtain ⟨a8, n8, c8, hv8⟩ := slice_any hR8; subst hv8; have HR8 := zA hR8; have HB8 := zA hB8; have HG8 := zA hG8; have m8 := (hB8.block _ hw2Z).trans (HM7.out _ _); obtain ⟨r8, s8⟩ := blk m8; clear hR8 hB8 hG8)
  have h1 := HD7.out (.slice a6 row.length c6) (.cells #[.int .i64 ln.quote, .slice a4 ln.lists.length c4, .int .i64 ln.kind, .slice a6 row.length c6] 60)
  have hb7 := HB7.out (.slice a6 row.length c6) (.cells #[.int .i64 ln.quote, .slice a4 ln.lists.length c4, .int .i64 ln.kind, .slice a6 row.length c6] 60)
  have hwW := HIN.out.1.size
  have hz8 := HB8.out.size
  have hz7 := HZ7.out (.slice a6 row.length c6) (.cells #[.int .i64 ln.quote, .slice a4 ln.lists.length c4, .int .i64 ln.kind, .slice a6 row.length c6] 60)
  have hd8 := (HB8.out.block w.heap.size (by omega)).trans (zY hb7 HA.out.2.1)
  refine ⟨((keeps_below hb7).from _).trans (((append_keeps h1 HNE.out HG8.out).from _).trans ((KeepsOthers.setCell _ _ _).from _)), (Kb.of_below hwW hb7).t ((Kb.of_top hb6.size (zC _) HB8.out).t (Kb.setCell _ hx2.size (Or.inl (Nat.lt_succ_self _)) _)), _, ?_, SliceR.stable (qB true) HR8.out ((Keeps.refl _ _).set (fun hh => by have hh : w6.heap.size ≤ w2.heap.size := hh; omega) _) (fun _ h _ => h), ?_, .inr (by rw [HT.out]; simp), ?_, ?_⟩
  ·rw [heap_set, if_pos rfl, m8]; rfl
  ·rw [heap_set, if_neg (by omega)]; exact hd8
  ·exact ((below_from HIN.out.1 hb7).trans (HB8.out.mono hb6.size)).setCell (by show w.heap.size ≤ w2.heap.size; exact hx2.size) _
  ·simp only [World.size_setCell]; omega
 case done =>
  rintro D ys W hD hys ⟨v9, t0, hDoc, td, hne, hb, hz⟩ hK
  obtain ⟨s0, s0f⟩ := blk t0
  rw [show (ys.map fun y => partOf d y.1) = (rowsTo d i p j q (j + 1)).map (partOf d) by rw [← hys, List.map_map]; rfl] at hDoc
  obtain ⟨va9, c9, rfl⟩ := hDoc.slice
  have HDOC := zA hDoc
  have HB9 := zA hb
  have HK9 := zA hK
  clear hDoc hb hK td hne
  generalize ((rowsTo d i p j q (j + 1)).map (partOf d)).length = n9 at *
  gi_wp2_with fail
  refine ⟨by simp, .inl ⟨_, _, rfl, run_takeDeferred HK9.out, ?_⟩⟩
  refine ⟨.tuple #[.slice va9 n9 c9, .int .i64 0], by simp [results, Tryz.results205, go_sem], ?_⟩
  unfold DocSaid
  rw [HR.out]
  exact ⟨_, rfl, SliceR.stable (qB true) ((doc_own (β := Unit) D _ _ (fun _ => (rowsTo d i p j q (j + 1)).map (partOf d))).putObj (s := ()) _ HDOC.out (zC _) HK9.out rfl) (Keeps.refl _ _) (fun b h _ => zD hb6.size h), HB9.out.trans (belowK_b (w := w) (zC _) W D _ _ (by omega) HK9.out rfl rfl)⟩
 case stop =>
  rintro D c pre W _ _ h _
  exact h.elim
end Go.Proofs.YtcliojeoindceaaGreatDoor
