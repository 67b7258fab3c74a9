/- The walks of doc.Set, doc.Link. -/
import Derived.Test.YtpndnbjpnajaaaaGreatDoorDocEachU
import Derived.Test.YtpndnbjpnajaaaaGreatDoorDocDeleteU
import Derived.Test.YtpndnbjpnajaaaaGreatDoorRefTargetU
import Derived.Test.YtpndnbjpnajaaaaGreatDoorOpenMoreU
import Derived.Test.YtpndnbjpnajaaaaGreatDoorAttrWalkU
set_option linter.unusedVariables false
set_option linter.unusedSimpArgs false
namespace Go.Proofs.YtpndnbjpnajaaaaGreatDoor
open Go.RowKit
open Go.Proofs.Qw
theorem DocSaid.from {x : Doc × Int} {w W : World} {e : Ending} {w' : World} (h : DocSaid x W e w') (hb : Below w.heap.size w W) : DocSaid x w e w' := by
 obtain ⟨v', h1, h2, h3⟩ := h
 exact ⟨v', h1, SliceR.stable (rdLin_stable true) h2 (Keeps.refl _ _) (fun b h _ => Nat.le_trans hb.size h), below_from hb h3⟩
theorem eachC_ok {F : Cel → Cel} {cs : List Cel} {i j : Nat} (hij : i ≤ j) (hj : j ≤ cs.length) : eachC F cs i j = (mapIn F i j cs, 0) := by
 unfold eachC spanC
 rw [if_pos (by simp; omega)]
 simp
theorem docSet1_any (v : Value) (cs : List Cel) (i j s c : Int) (b1 b2 : Nat) (w : World) (S : Nat → Prop) (own : Bool) (h : CelsR own w S v cs) (hs : cs.length ≤ 1000000) (h1 : w.heap[b1]? = some (.cells #[.int .i64 s] 3)) (h2 : w.heap[b2]? = some (.cells #[.int .i64 c] 3)) :
  Calls Tryz.prog 165 #[v, .int .i64 i, .int .i64 j, .pointer (some ⟨b1, 0, none⟩), .pointer (some ⟨b2, 0, none⟩)] w (CellsSaid (eachC (setBits s c) cs i j).1 (eachC (setBits s c) cs i j).2 w) := by
 have HC := Lib.hid (cellsSet_any v cs i j s c w S own h hs)
 obtain ⟨a, cc, rfl⟩ := h.slice
 obtain ⟨p1, f1⟩ := blk h1
 obtain ⟨p2, f2⟩ := blk h2
 generalize eachC (setBits s c) cs i j = r at *
 clear h h1 h2
 go_enter Tryz.func165, Tryz.ntmps165
 go_wp2_with (go_at_call 166; refine HC.out.mono ?_; intro e w2 hsaid; obtain ⟨v', rfl, hv', hb'⟩ := hsaid)
 go_ret2
 exact ⟨_, rfl, hv', hb'⟩
theorem docLink1_any (v : Value) (cs : List Cel) (i j : Int) (hr : List UInt8) (b1 : Nat) (w : World) (S : Nat → Prop) (own : Bool) (h : CelsR own w S v cs) (hs : cs.length ≤ 1000000) (he : EnvT w) (hh : hr.length ≤ 1000000) (h1 : w.heap[b1]? = some (.cells #[.string ⟨hr.toArray⟩] 9)) :
  Calls Tryz.prog 171 #[v, .int .i64 i, .int .i64 j, .pointer (some ⟨b1, 0, none⟩)] w (CellsSaid (linkC hr cs i j).1 (linkC hr cs i j).2 w) := by
 have HC := Lib.hid (cellsLink_any v cs i j hr w S own h hs he hh)
 obtain ⟨a, cc, rfl⟩ := h.slice
 obtain ⟨p1, f1⟩ := blk h1
 generalize linkC hr cs i j = r at *
 clear h h1 he hh
 go_enter Tryz.func171, Tryz.ntmps171
 go_wp2_with (go_at_call 172; refine HC.out.mono ?_; intro e w2 hsaid; obtain ⟨v', rfl, hv', hb'⟩ := hsaid)
 go_ret2
 exact ⟨_, rfl, hv', hb'⟩
def setD (s c : Int) (d : Doc) (a b : Ps) : Doc × Int := eachD (fun cs i j => mapIn (setBits s c) i j cs) d a b
set_option maxRecDepth 100000 in
set_option maxHeartbeats 2000000 in
theorem docSet_any (v : Value) (d : Doc) (a b : Ps) (s c : Int) (w : World) (S : Nat → Prop) (h : LinsR w S v d) (he : EnvT w) (hs : Small d) (hf : Fits d) :
  Calls Tryz.prog 97 #[v, posV a, posV b, .int .i64 s, .int .i64 c] w (DocSaid (setD s c d a b) w) := by
 obtain ⟨W1, hW1⟩ : ∃ W1, (((w.alloc (.cells #[.int .i64 a.line, .int .i64 a.col] 24)).alloc (.cells #[.int .i64 b.line, .int .i64 b.col] 24)).alloc (.cells #[.int .i64 s] 3)).alloc (.cells #[.int .i64 c] 3) = W1 := ⟨_, rfl⟩
 have hB : Below w.heap.size w W1 := hW1 ▸ ((((Below.refl _ _).alloc (Nat.le_refl _) _).alloc (by simp) _).alloc (by simp; omega) _).alloc (by simp; omega) _
 have k0 : W1.heap[w.heap.size]? = some (.cells #[.int .i64 a.line, .int .i64 a.col] 24) := hW1 ▸ heap_old _ _ (heap_old _ _ (heap_old _ _ (heap_new _ _ rfl)))
 have k1 : W1.heap[w.heap.size + 1]? = some (.cells #[.int .i64 b.line, .int .i64 b.col] 24) := hW1 ▸ heap_old _ _ (heap_old _ _ (heap_new _ _ (by simp)))
 have k2 : W1.heap[w.heap.size + 2]? = some (.cells #[.int .i64 s] 3) := hW1 ▸ heap_old _ _ (heap_new _ _ (by simp))
 have k3 : W1.heap[w.heap.size + 3]? = some (.cells #[.int .i64 c] 3) := hW1 ▸ heap_new _ _ (by simp)
 have HC := Lib.hid (docEach_any v d a b 165 #[.pointer (some ⟨w.heap.size + 2, 0, none⟩), .pointer (some ⟨w.heap.size + 3, 0, none⟩)] (fun cs i j => mapIn (setBits s c) i j cs) W1 S (h.below (rdLin_stable _) hB) (he.below hB) hs hf (fun c i j => mapIn_length _ _ _ _)
  (enters_of Tryz.func165 (by kernel_rfl) rfl) (fun W v cs i j hW hv hij hj hl => by
   have := docSet1_any v cs i j s c (w.heap.size + 2) (w.heap.size + 3) W _ true hv hl (heap_below hW k2) (heap_below hW k3)
   rw [eachC_ok hij hj] at this
   exact this))
 have HP : Hid (∀ p : Ps, posV p = .agg #[.int .i64 p.line, .int .i64 p.col]) := Lib.hid fun _ => rfl
 have HR : Hid (setD s c d a b = eachD (fun cs i j => mapIn (setBits s c) i j cs) d a b) := Lib.hid rfl
 have H1 := Lib.hid hB
 obtain ⟨p1, f1⟩ := blk k0
 obtain ⟨p2, f2⟩ := blk k1
 obtain ⟨va, vc, rfl⟩ := h.slice
 generalize eachD (fun cs i j => mapIn (setBits s c) i j cs) d a b = r at *
 clear h he hs hf k0 k1 k2 k3 hB
 rw [HP.out a, HP.out b] at HC ⊢
 go_enter Tryz.func97, Tryz.ntmps97
 go_wp2_with (go_at_call 164; refine HC.out.mono ?_; intro e w2 hsaid; have hsaid := DocSaid.from hsaid H1.out; obtain ⟨v', rfl, hv', hb'⟩ := hsaid)
 go_ret2
 rw [HR.out]
 exact ⟨_, rfl, hv', hb'⟩
def linkD (hr : List UInt8) (d : Doc) (a b : Ps) : Doc × Int := if linkF hr = true then eachD (fun cs i j => mapIn (setHref hr) i j cs) d a b else ([], 1)
set_option maxRecDepth 100000 in
set_option maxHeartbeats 2000000 in
theorem docLink_any (v : Value) (d : Doc) (a b : Ps) (hr : List UInt8) (w : World) (S : Nat → Prop) (h : LinsR w S v d) (he : EnvT w) (hs : Small d) (hf : Fits d) (hh : hr.length ≤ 1000000) :
  Calls Tryz.prog 100 #[v, posV a, posV b, .string ⟨hr.toArray⟩] w (DocSaid (linkD hr d a b) w) := by
 obtain ⟨W1, hW1, hB, hz, k0, k1, k2⟩ := three_blocks w (.int .i64 a.line) (.int .i64 a.col) (.int .i64 b.line) (.int .i64 b.col) (.string ⟨hr.toArray⟩) 9
 have HB : Hid (∀ W, Below W1.heap.size W1 W → W.heap[w.heap.size]? = some (.cells #[.int .i64 a.line, .int .i64 a.col] 24) ∧ W.heap[w.heap.size + 1]? = some (.cells #[.int .i64 b.line, .int .i64 b.col] 24)) := Lib.hid fun W hW => ⟨heap_below hW k0, heap_below hW k1⟩
 have HT : Hid (Calls Tryz.prog 99 #[.string ⟨hr.toArray⟩] W1 fun e w' => e = .returned (.bool (targetF hr)) ∧ Below W1.heap.size W1 w') := Lib.hid (target_any ⟨hr.toArray⟩ W1 (he.below hB) (by show hr.toArray.size ≤ _; simpa using hh))
 have HC : Hid (linkF hr = true → ∀ W, Below W1.heap.size W1 W → Calls Tryz.prog 164 #[v, posV a, posV b, .func (.func 171) #[] #[.pointer (some ⟨w.heap.size + 2, 0, none⟩)]] W (DocSaid (eachD (fun cs i j => mapIn (setHref hr) i j cs) d a b) W)) := Lib.hid fun hlk W hW =>
  docEach_any v d a b 171 #[.pointer (some ⟨w.heap.size + 2, 0, none⟩)] (fun cs i j => mapIn (setHref hr) i j cs) W S ((h.below (rdLin_stable _) hB).below (rdLin_stable _) hW) ((he.below hB).below hW) hs hf (fun c i j => mapIn_length _ _ _ _)
   (enters_of Tryz.func171 (by kernel_rfl) rfl) (fun X v cs i j hX hv hij hj hl => by
    have := docLink1_any v cs i j hr (w.heap.size + 2) X _ true hv hl (((he.below hB).below hW).below hX) hh (heap_below hX (heap_below hW k2))
    unfold linkC at this
    rw [if_pos hlk, eachC_ok hij hj] at this
    exact this)
 have HP : Hid (∀ p : Ps, posV p = .agg #[.int .i64 p.line, .int .i64 p.col]) := Lib.hid fun _ => rfl
 have HR : Hid (linkD hr d a b = if linkF hr = true then eachD (fun cs i j => mapIn (setHref hr) i j cs) d a b else ([], 1)) := Lib.hid rfl
 have HL : Hid (linkF hr = (decide (hr = []) || targetF hr)) := Lib.hid rfl
 have H1 := Lib.hid hB
 have hs1 := hB.size
 have hw1 : Below W1.heap.size W1 W1 := Below.refl _ _
 obtain ⟨p1, f1⟩ := blk k0
 obtain ⟨p2, f2⟩ := blk k1
 obtain ⟨p3, f3⟩ := blk k2
 obtain ⟨va, vc, rfl⟩ := h.slice
 generalize eachD (fun cs i j => mapIn (setHref hr) i j cs) d a b = r at *
 clear h he hs hf k0 k1 k2 hB hh
 rw [HP.out a, HP.out b] at HC ⊢
 by_cases hn : hr = []
 ·have HC := Lib.hid (HC.out (by rw [HL.out, decide_eq_true hn]; rfl))
  have HR : Hid (linkD hr d a b = r) := Lib.hid (HR.out.trans (if_pos (by rw [HL.out, decide_eq_true hn]; rfl)))
  have hne : hr.isEmpty = true := by simpa using hn
  clear hn
  go_enter Tryz.func100, Tryz.ntmps100
  go_wp2_with (go_at_call 164; refine (HC.out _ hw1).mono ?_; intro e w2 hsaid; have hsaid := DocSaid.from hsaid H1.out; obtain ⟨v', rfl, hv', hb'⟩ := hsaid)
  go_ret2
  rw [HR.out]
  exact ⟨_, rfl, hv', hb'⟩
 ·have hne : hr.isEmpty = false := by simpa using hn
  cases htg : targetF hr
  ·have HR : Hid (linkD hr d a b = ([], 1)) := Lib.hid (HR.out.trans (if_neg (by rw [HL.out, decide_eq_false hn, htg]; simp)))
   rw [htg] at HT
   clear htg
   go_enter Tryz.func100, Tryz.ntmps100
   go_wp2_with (go_at_call 99; refine HT.out.mono ?_; rintro e w2 ⟨rfl, hb2⟩)
   go_ret2
   unfold DocSaid
   rw [HR.out]
   exact ⟨_, rfl, SliceR.nil _ _ _ _ _ _, H1.out.trans (hb2.mono hs1)⟩
  ·have hlk : linkF hr = true := by rw [HL.out, htg]; simp
   have HC := Lib.hid (HC.out hlk)
   have HR : Hid (linkD hr d a b = r) := Lib.hid (HR.out.trans (if_pos hlk))
   rw [htg] at HT
   clear htg hlk
   go_enter Tryz.func100, Tryz.ntmps100
   go_wp2_with (first | (go_at_call 99; refine HT.out.mono ?_; rintro e w2 ⟨rfl, hb2⟩; obtain ⟨q1, g1⟩ := blk (HB.out _ hb2).1; obtain ⟨q2, g2⟩ := blk (HB.out _ hb2).2) | (go_at_call 164; refine (HC.out _ hb2).mono ?_; intro e w3 hsaid; have hsaid := DocSaid.from hsaid (H1.out.trans (hb2.mono hs1)); obtain ⟨v', rfl, hv', hb'⟩ := hsaid))
   go_ret2
   rw [HR.out]
   exact ⟨_, rfl, hv', hb'⟩
end Go.Proofs.YtpndnbjpnajaaaaGreatDoor
namespace Go.Proofs.Qw
open Go.RowKit Go.Proofs.YtpndnbjpnajaaaaGreatDoor
structure St where
 lines : Doc
 anc : Ps
 foc : Ps
 on : Int
 off : Int
 deriving DecidableEq, Inhabited
def noS : St := ⟨[], ⟨0, 0⟩, ⟨0, 0⟩, 0, 0⟩
def mayS (s : St) : Bool := mayD s.lines && (isD s.lines s.anc && (isD s.lines s.foc && (bits .andNot .i64 s.on 15 == 0 && (bits .andNot .i64 s.off 15 == 0 && bits .and .i64 s.on s.off == 0))))
def spanS (s : St) : Ps × Ps := if 0 < cmpP s.anc s.foc then (s.foc, s.anc) else (s.anc, s.foc)
abbrev stV (v : Value) (s : St) : Value := .agg #[v, .int .i64 s.anc.line, .int .i64 s.anc.col, .int .i64 s.foc.line, .int .i64 s.foc.col, .int .i64 s.on, .int .i64 s.off]
theorem one_st (w : World) (v : Value) (s : St) : ∃ W1, w.alloc (.cells #[v, .int .i64 s.anc.line, .int .i64 s.anc.col, .int .i64 s.foc.line, .int .i64 s.foc.col, .int .i64 s.on, .int .i64 s.off] 26) = W1 ∧ Below w.heap.size w W1 ∧ w.heap.size + 1 = W1.heap.size ∧
  W1.heap[w.heap.size]? = some (.cells #[v, .int .i64 s.anc.line, .int .i64 s.anc.col, .int .i64 s.foc.line, .int .i64 s.foc.col, .int .i64 s.on, .int .i64 s.off] 26) :=
 ⟨_, rfl, (Below.refl _ _).alloc (Nat.le_refl _) _, by simp, heap_new _ _ rfl⟩
def StSaid (x : St × Int) (w : World) (e : Ending) (w' : World) : Prop := ∃ v', e = .returned (.tuple #[stV v' x.1, .int .i64 x.2]) ∧ DocR true w' (fun b => w.heap.size ≤ b) v' x.1.lines ∧ Below w.heap.size w w'
theorem StSaid.from {x : St × Int} {w W : World} {e : Ending} {w' : World} (h : StSaid x W e w') (hb : Below w.heap.size w W) : StSaid x w e w' := by
 obtain ⟨v', h1, h2, h3⟩ := h
 exact ⟨v', h1, SliceR.stable (rdLin_stable true) h2 (Keeps.refl _ _) (fun b h _ => Nat.le_trans hb.size h), below_from hb h3⟩
theorem below1 {w W : World} (h : Below w.heap.size w W) (X : Obj) : Below w.heap.size w (W.alloc X) := h.alloc h.size X
theorem below2 {w W : World} (h : Below w.heap.size w W) (X Y : Obj) : Below w.heap.size w ((W.alloc X).alloc Y) := below1 (below1 h X) Y
theorem below3 {w W : World} (h : Below w.heap.size w W) (X Y Z : Obj) : Below w.heap.size w (((W.alloc X).alloc Y).alloc Z) := below1 (below2 h X Y) Z
theorem on1 {w : World} {B : Nat} {cs : Array Value} {t : TypeId} (h : w.heap[B]? = some (.cells cs t)) : ∀ X k, (w.alloc X).cell? ⟨B, k, none⟩ = cs[k]? := fun X _ => cell_of_heap (heap_old _ X h)
theorem on2 {w : World} {B : Nat} {cs : Array Value} {t : TypeId} (h : w.heap[B]? = some (.cells cs t)) : ∀ X Y k, ((w.alloc X).alloc Y).cell? ⟨B, k, none⟩ = cs[k]? := fun X Y _ => cell_of_heap (heap_old _ Y (heap_old _ X h))
theorem cmpP_lt (a b : Ps) : (0 < cmpP a b) = (cmpP b a < 0) := by
 obtain ⟨a, c⟩ := a
 obtain ⟨b, d⟩ := b
 simp only [cmpP, cmpI, eq_iff_iff, ne_eq]
 split <;> split <;> (try split) <;> (try split) <;> (try split) <;> (try split) <;> simp_all <;> omega
theorem bits_small (x : Int) (hx : -9223372036854775808 ≤ x ∧ x ≤ 9223372036854775807) : (bits .andNot .i64 x 15 == 0) = (decide (0 ≤ x) && decide (x ≤ 15)) := by
 by_cases h : 0 ≤ x ∧ x ≤ 15
 ·obtain ⟨n, rfl⟩ := Int.eq_ofNat_of_zero_le h.1
  have H : ∀ n : Fin 16, (bits .andNot .i64 (n.val : Int) 15 == 0) = true := by decide +kernel
  have h1 := H ⟨n, by omega⟩
  simp only at h1
  rw [h1, decide_eq_true h.1, decide_eq_true h.2]
  rfl
 ·have hne : bits .andNot .i64 x 15 ≠ 0 := by
   intro e
   unfold bits at e
   simp only at e
   have hz : (BitVec.ofInt 64 x &&& ~~~BitVec.ofInt 64 15).toNat = 0 := by
    have hlt := (BitVec.ofInt 64 x &&& ~~~BitVec.ofInt 64 15).isLt
    have e' : IntKind.i64.wrap ((BitVec.ofInt 64 x &&& ~~~BitVec.ofInt 64 15).toNat : Int) = 0 := e
    generalize (BitVec.ofInt 64 x &&& ~~~BitVec.ofInt 64 15).toNat = m at e' hlt
    have e2 : (if (true && decide ((m : Int) % 2 ^ 64 ≥ 2 ^ 63)) = true then (m : Int) % 2 ^ 64 - 2 ^ 64 else (m : Int) % 2 ^ 64) = 0 := e'
    simp only [Bool.true_and, decide_eq_true_eq] at e2
    split at e2 <;> omega
   have hz2 : BitVec.ofInt 64 x &&& ~~~BitVec.ofInt 64 15 = 0#64 := BitVec.eq_of_toNat_eq (by simpa using hz)
   have h3 : BitVec.ofInt 64 x = BitVec.ofInt 64 x &&& BitVec.ofInt 64 15 := by
    clear hz e
    generalize BitVec.ofInt 64 15 = c at *
    apply BitVec.eq_of_getLsbD_eq
    intro i hi
    have := congrArg (fun v => v.getLsbD i) hz2
    simp [hi] at this
    simp only [BitVec.getLsbD_and]
    cases ha : (BitVec.ofInt 64 x).getLsbD i
    ·rfl
    ·simp [ha] at this ⊢
     exact this
   have h4 : (BitVec.ofInt 64 x).toNat ≤ 15 := by
    rw [h3, BitVec.toNat_and]
    exact Nat.le_trans Nat.and_le_right (by decide)
   rw [BitVec.toNat_ofInt] at h4
   omega
  rw [beq_eq_false_iff_ne.2 hne]
  by_cases h0 : 0 ≤ x
  ·rw [decide_eq_true h0, decide_eq_false (fun h1 => h ⟨h0, h1⟩)]; rfl
  ·rw [decide_eq_false h0]; rfl
end Go.Proofs.Qw
namespace Go.Proofs.YtpndnbjpnajaaaaGreatDoor
open Go.RowKit
open Go.Proofs.Qw
theorem results_two_pos {fn : Func} {p u : Tmp} (h : fn.results = #[.cell p 24, .cell u 24]) (tmps : Array Value) (w : World) (B C : Nat) (a b c d : Value) (hp : tmps.getD p undef = .pointer (some ⟨B, 0, none⟩)) (hu : tmps.getD u undef = .pointer (some ⟨C, 0, none⟩))
  (h1 : w.heap[B]? = some (.cells #[a, b] 24)) (h2 : w.heap[C]? = some (.cells #[c, d] 24)) : (results fn tmps).run Tryz.prog w = .ok (.tuple #[.agg #[a, b], .agg #[c, d]]) w := by
 have hp' : tmps[p]?.getD undef = .pointer (some ⟨B, 0, none⟩) := by simpa using hp
 have hu' : tmps[u]?.getD undef = .pointer (some ⟨C, 0, none⟩) := by simpa using hu
 have e1 := run_loadVar_row (P := Tryz.prog) w B 24 24 _ _ _ h1 Tryz.underlying24 rfl (by kernel_rfl)
 have e2 := run_loadVar_row (P := Tryz.prog) w C 24 24 _ _ _ h2 Tryz.underlying24 rfl (by kernel_rfl)
 simp [results, h, hp', hu', asAddr, e1, e2]
theorem results_st {fn : Func} {p : Tmp} (h : fn.results = #[.cell p 26]) (tmps : Array Value) (w : World) (B : Nat) (a b c d e f g : Value) (hp : tmps.getD p undef = .pointer (some ⟨B, 0, none⟩)) (hg : w.heap[B]? = some (.cells #[a, b, c, d, e, f, g] 26)) :
  (results fn tmps).run Tryz.prog w = .ok (.agg #[a, b, c, d, e, f, g]) w :=
 results_cell_row h tmps w B _ _ _ _ hp hg Tryz.underlying26 rfl (by kernel_rfl)
theorem st_pos2 (w : World) (v : Value) (s : St) : ∃ W1, ((w.alloc (.cells #[v, .int .i64 s.anc.line, .int .i64 s.anc.col, .int .i64 s.foc.line, .int .i64 s.foc.col, .int .i64 s.on, .int .i64 s.off] 26)).alloc (.cells #[.int .i64 0, .int .i64 0] 24)).alloc (.cells #[.int .i64 0, .int .i64 0] 24) = W1 ∧ Below w.heap.size w W1 ∧ w.heap.size + 3 = W1.heap.size ∧
  W1.heap[w.heap.size]? = some (.cells #[v, .int .i64 s.anc.line, .int .i64 s.anc.col, .int .i64 s.foc.line, .int .i64 s.foc.col, .int .i64 s.on, .int .i64 s.off] 26) ∧ W1.heap[w.heap.size + 1]? = some (.cells #[.int .i64 0, .int .i64 0] 24) ∧ W1.heap[w.heap.size + 2]? = some (.cells #[.int .i64 0, .int .i64 0] 24) :=
 ⟨_, rfl, (((Below.refl _ _).alloc (Nat.le_refl _) _).alloc (by simp) _).alloc (by simp; omega) _, by simp, heap_old _ _ (heap_old _ _ (heap_new _ _ rfl)), heap_old _ _ (heap_new _ _ (by simp)), heap_new _ _ (by simp)⟩
theorem st_two (w : World) (v : Value) (s : St) : ∃ W1, (w.alloc (.cells #[v, .int .i64 s.anc.line, .int .i64 s.anc.col, .int .i64 s.foc.line, .int .i64 s.foc.col, .int .i64 s.on, .int .i64 s.off] 26)).alloc (.cells #[.slice none 0 0, .int .i64 0, .int .i64 0, .int .i64 0, .int .i64 0, .int .i64 0, .int .i64 0] 26) = W1 ∧ Below w.heap.size w W1 ∧ w.heap.size + 2 = W1.heap.size ∧
  W1.heap[w.heap.size]? = some (.cells #[v, .int .i64 s.anc.line, .int .i64 s.anc.col, .int .i64 s.foc.line, .int .i64 s.foc.col, .int .i64 s.on, .int .i64 s.off] 26) ∧ W1.heap[w.heap.size + 1]? = some (.cells #[.slice none 0 0, .int .i64 0, .int .i64 0, .int .i64 0, .int .i64 0, .int .i64 0, .int .i64 0] 26) :=
 ⟨_, rfl, ((Below.refl _ _).alloc (Nat.le_refl _) _).alloc (by simp) _, by simp, heap_old _ _ (heap_new _ _ rfl), heap_new _ _ (by simp)⟩
theorem st_both (w : World) (v u : Value) (s t : St) : ∃ W1, (w.alloc (.cells #[v, .int .i64 s.anc.line, .int .i64 s.anc.col, .int .i64 s.foc.line, .int .i64 s.foc.col, .int .i64 s.on, .int .i64 s.off] 26)).alloc (.cells #[u, .int .i64 t.anc.line, .int .i64 t.anc.col, .int .i64 t.foc.line, .int .i64 t.foc.col, .int .i64 t.on, .int .i64 t.off] 26) = W1 ∧ Below w.heap.size w W1 ∧ w.heap.size + 2 = W1.heap.size ∧
  W1.heap[w.heap.size]? = some (.cells #[v, .int .i64 s.anc.line, .int .i64 s.anc.col, .int .i64 s.foc.line, .int .i64 s.foc.col, .int .i64 s.on, .int .i64 s.off] 26) ∧ W1.heap[w.heap.size + 1]? = some (.cells #[u, .int .i64 t.anc.line, .int .i64 t.anc.col, .int .i64 t.foc.line, .int .i64 t.foc.col, .int .i64 t.on, .int .i64 t.off] 26) :=
 ⟨_, rfl, ((Below.refl _ _).alloc (Nat.le_refl _) _).alloc (by simp) _, by simp, heap_old _ _ (heap_new _ _ rfl), heap_new _ _ (by simp)⟩
end Go.Proofs.YtpndnbjpnajaaaaGreatDoor
namespace Go.Proofs.YtpndnbjpnajaaaaGreatDoor
open Go.ChangeShapes Go.WideShapes Go.ChangeAt Go.RowKit
open Go.Proofs.Qw Go.Deep
section
variable {H : Type} {enc : TypeId × Value → H} {w : World} {base : Nat} {held : Bool}
def InI (x : Int) : Prop := -9223372036854775808 ≤ x ∧ x ≤ 9223372036854775807
set_option maxRecDepth 100000 in
theorem open_ps {n : Nat} {sp : Nat → Bool} {cs : List Value} {y : DataW H × List MemPlace} (h : DataW.trod enc Tryz.prog w base sp held n 24 cs = some y) : ∃ x : Ps, cs = [.int .i64 x.line, .int .i64 x.col] := by
 obtain ⟨xs, m, _, _, hl, hxs, hf⟩ := DataW.trod_struct Tryz.underlying24 h
 have h0 := hf 0 _ rfl
 have h1 := hf 1 _ rfl
 rw [show Tryz.prog.cellsOf 24 = 2 by kernel_rfl] at hl
 match cs, hl with
 | [a, b], _ =>
  match xs, hxs with
  | [x0, x1], _ =>
   obtain ⟨q, e0, _, _⟩ := DataW.trod_int Tryz.underlying3 h0
   obtain ⟨r, e1, _, _⟩ := DataW.trod_int Tryz.underlying3 h1
   have e0 : [a] = [Value.int .i64 q] := e0
   have e1 : [b] = [Value.int .i64 r] := e1
   cases e0
   cases e1
   exact ⟨⟨q, r⟩, rfl⟩
set_option maxRecDepth 100000 in
theorem open_docL {n : Nat} {cs : List Value} {y : DataW H × List MemPlace} (h : DataW.trod enc Tryz.prog w base (fun _ => true) held n 22 cs = some y) (hw : ∀ n ∈ y.1.weights Tryz.prog 22, n ≤ reachBytes) :
  ∃ (v : Value) (x : Doc), cs = [v] ∧ LinsR w (fun _ => True) v x ∧ Sane x := by
 obtain ⟨v', xs, e, hs, hx⟩ := open_row (t0 := 42) (k := 4) (R := rdLin false) (LinD Tryz.prog 42) Tryz.underlying22 (by kernel_rfl) (by decide) h (fun n cs y h => open_lin h)
 refine ⟨v', xs, e, hs, fun l hl => ?_⟩
 obtain ⟨i, hi⟩ := List.getElem?_of_mem hl
 rcases hx with ⟨_, rfl⟩ | ⟨el, spr, hd, _, hel⟩
 ·cases hl
 ·obtain ⟨dd, g1, g2⟩ := hel i l hi
  rw [hd] at hw
  exact g2 fun n hn => hw n (by
   rw [DataW.weights, Tryz.underlying22]
   exact List.mem_cons_of_mem _ (List.mem_append_left _ (weightsAll_mem hn (List.mem_of_getElem? g1))))
set_option maxRecDepth 100000 in
theorem open_state {v : Value} {d : DataW H} {ps : List MemPlace} (hv : ∃ cs, v = .agg cs ∧ cs.size = Tryz.prog.cellsOf 26) (h : DataW.Trod enc Tryz.prog w base (fun _ => true) held 26 v d ps) (hw : ∀ n ∈ d.weights Tryz.prog 26, n ≤ reachBytes) :
  ∃ (u : Value) (s : St), v = stV u s ∧ LinsR w (fun _ => True) u s.lines ∧ Sane s.lines ∧ InI s.on ∧ InI s.off := by
 obtain ⟨cs, rfl, hsz⟩ := hv
 obtain ⟨fuel, hf⟩ := h
 obtain ⟨xs, m, _, hd, hl, hxs, hff⟩ := DataW.trod_struct Tryz.underlying26 hf
 have h0 := hff 0 _ rfl
 have h1 := hff 1 _ rfl
 have h2 := hff 2 _ rfl
 have h3 := hff 3 _ rfl
 have h4 := hff 4 _ rfl
 rw [show Tryz.prog.cellsOf 26 = 7 by kernel_rfl] at hsz
 obtain ⟨l⟩ := cs
 match l, hsz with
 | [a, b, c, p, e, f, g], _ =>
  match xs, hxs with
  | [x0, x1, x2, x3, x4], _ =>
   have hd : d = .agg [x0.1, x1.1, x2.1, x3.1, x4.1] := (Prod.ext_iff.1 hd).1
   obtain ⟨u, ls, e0, hls, hsn⟩ := open_docL h0 (fun n hn => hw n (by
    rw [hd]
    simp only [DataW.weights, Tryz.underlying26]
    simp [DataW.weightsEach, hn]))
   obtain ⟨pa, e1⟩ := open_ps h1
   obtain ⟨pf, e2⟩ := open_ps h2
   obtain ⟨q, e3, _, wq⟩ := DataW.trod_int Tryz.underlying3 h3
   obtain ⟨r, e4, _, wr⟩ := DataW.trod_int Tryz.underlying3 h4
   have e0 : [a] = [u] := e0
   have e1 : [b, c] = [Value.int .i64 pa.line, Value.int .i64 pa.col] := e1
   have e2 : [p, e] = [Value.int .i64 pf.line, Value.int .i64 pf.col] := e2
   have e3 : [f] = [Value.int .i64 q] := e3
   have e4 : [g] = [Value.int .i64 r] := e4
   cases e0
   cases e1
   cases e2
   cases e3
   cases e4
   exact ⟨_, ⟨ls, pa, pf, q, r⟩, rfl, hls, hsn, bounds_i64 wq, bounds_i64 wr⟩
end
end Go.Proofs.YtpndnbjpnajaaaaGreatDoor
namespace Go.Proofs.YtpndnbjpnajaaaaGreatDoor
open Go.RowKit
open Go.Proofs.Qw
attribute [local go_sem] Oper.semAt_some
attribute [local go_sem] Oper.semAt_some
structure Kb (n₀ base top : Nat) (W W' : World) : Prop where
 below : Below n₀ W W'
 cells : ∀ k o, base ≤ k → k < top → W.heap[k]? = some o → o.isCells = true → W'.heap[k]? = some o
theorem Kb.t {n₀ base top : Nat} {A B C : World} (h : Kb n₀ base top A B) (k : Kb n₀ base top B C) : Kb n₀ base top A C := ⟨h.below.trans k.below, fun i o hi ht ho hc => k.cells i o hi ht (h.cells i o hi ht ho hc) hc⟩
theorem Kb.of_kp {n₀ base top : Nat} {A B : World} (h : Kp n₀ base A B) : Kb n₀ base top A B := ⟨h.below, fun i o hi _ ho hc => h.cells i o hi ho hc⟩
theorem Kb.b {n₀ base top : Nat} {w : World} (hn : n₀ ≤ w.heap.size) (W : World) (l : Nat) (o o' : Obj) (hl : w.heap.size ≤ l) (h : W.heap[l]? = some o) (hc : o.isCells = false) (hw : o.isWalk = false) : Kb n₀ base top W (W.putObj l o') := .of_kp (Kp.b hn W l o o' hl h hc hw)
theorem Kb.of_below {n₀ base top : Nat} {W W' : World} (hn : n₀ ≤ W.heap.size) (hb : Below W.heap.size W W') : Kb n₀ base top W W' := .of_kp (.of_below hn hb)
theorem Kb.of_top {n₀ base top Z : Nat} {W W' : World} (hn : n₀ ≤ Z) (ht : top ≤ Z) (hb : Below Z W W') : Kb n₀ base top W W' := ⟨hb.mono hn, fun k _ _ hk h _ => (hb.block k (by omega)).trans h⟩
theorem Kb.setCell {n₀ base top : Nat} (W : World) {B o : Nat} (h1 : n₀ ≤ B) (h2 : B < base ∨ top ≤ B) (v : Value) : Kb n₀ base top W (W.setCell ⟨B, o, none⟩ v) :=
 ⟨(Below.refl _ _).setCell h1 _, fun k u hk ht h _ => by rw [Below.heap_setCell _ _ _ _ (by simp; omega)]; exact h⟩
theorem rangeFunc_boxB {P : Program} {F : Fence} {n : Nat} {α : Type} {g : Operand} {ps : Array Tmp} {assign body : Code} {Q : Exit → Act → World → Prop} {a : Act} {w : World}
  (hro : F.round = none) (h1 : 1 ≤ n) {gf : Nat} {lb : Array Value} (hg : a.eval g = .func (.func gf) #[] lb) (hFg : F.fn gf) (eg : ∀ args w, (callFunc gf args).run P w = .ok (.enter gf args) w)
  {encs : α → Array Value} {n₀ base top : Nat} {S Sp : List α → Prop} {N : Nat} {w0 : World} (hseq : SeqStopsK F (n - 1) P gf lb encs (Kb n₀ base top) S Sp N w0)
  (hn : n₀ ≤ w.heap.size) (hb0 : Below w0.heap.size w0 w) (hps : ∀ x, (encs x).size = ps.size)
  (I : List α → World → Prop) (Ix : Code → List α → World → Prop) (hI : OwnFrom w.heap.size I) (hIx : ∀ c, OwnFrom w.heap.size (Ix c)) (h0 : I [] w) (hIz : ∀ pre W, I pre W → w.heap.size ≤ W.heap.size)
  (rc : α → Array Value) (rt : TypeId) (act : Nat → α → Act)
  (hassign : ∀ (l : Nat) (pre : List α) (x : α) (W : World) (K : Act → World → Prop) (Bx : Nat), Bx = W.heap.size → I pre W → K (act Bx x) (W.alloc (.cells (rc x) rt)) →
   assign.wpIn (F.inRound l) (n - 1 - 1) P (Exit.then K (fun _ _ _ => False)) { tmps := (ps.zip (encs x)).foldl (fun t (p, v) => t.setIfInBounds p v) a.tmps, defers := [] } W)
  (hbody : ∀ (l : Nat) (pre : List α) (x : α) (Bx : Nat) (W : World), I pre W → w.heap.size ≤ Bx → W.heap[Bx]? = some (.cells (rc x) rt) → pre.length < N → body.wpIn (F.inRound l) (n - 1 - 1) P (ownPostG w.heap.size (Kb n₀ base top) I Ix (pre ++ [x]) W) (act Bx x) W)
  (hdone : ∀ (D : Nat) (xs : List α) (W : World), w.heap.size ≤ D → S xs → I xs W → W.heap[D]? = some (.deferred (some [])) → Q .normal { a with defers := { target := .collected D, args := #[] } :: a.defers } W)
  (hstop : ∀ (D : Nat) (c : Code) (pre : List α) (W : World), w.heap.size ≤ D → Sp pre → Ix c pre W → W.heap[D]? = some (.deferred (some [])) → c.wpIn F n P Q { a with defers := { target := .collected D, args := #[] } :: a.defers } W) :
  (Code.rangeFunc g ps assign body).wpIn F n P Q a w := by
 refine wpIn_rangeFunc_ownH hro h1 hg hFg eg hseq (fun h k => h.t k) (Kb.b hn) hb0 hps I Ix hI hIx h0
  (fun x a' W => ∃ Bx, w.heap.size ≤ Bx ∧ W.heap[Bx]? = some (.cells (rc x) rt) ∧ a' = act Bx x) ?_ ?_ ?_ hdone hstop
 ·intro x a' _ X Y row hs hg hr
  obtain ⟨Bx, h1, h2, h3⟩ := hs
  exact ⟨Bx, h1, (hg.block Bx (Array.getElem?_eq_some_iff.1 h2).1 (fun e => by obtain ⟨_, o, ho, hc⟩ := hr Bx e.symm; rw [h2] at ho; cases ho; cases hc)).trans h2, h3⟩
 ·intro l pre x W K hi hK
  exact hassign l pre x W K _ rfl hi (hK _ _ ((KeepsOthers.alloc _ _).from _) (Kb.of_below (Nat.le_trans hn (hIz _ _ hi)) ((Below.refl _ _).alloc (Nat.le_refl _) _)) (hI.alloc _ hi) ⟨_, hIz _ _ hi, heap_new _ _ rfl, rfl⟩)
 ·intro l pre x a' W hl hr hi ha hlt
  obtain ⟨Bx, h1, h2, rfl⟩ := ha
  exact hbody l pre x Bx W hi h1 h2 hlt
set_option maxRecDepth 200000 in
set_option maxHeartbeats 4000000 in
theorem between1_inB (n l Bd Ba Bb base top : Nat) (v : Value) (d : Doc) (i p j q : Nat) (S : Nat → Prop) (J Jx : List (RowX d) → World → Prop) (w0 W : World) (hv : LinsR w0 S v d) (hb0 : Below w0.heap.size w0 W)
  (hbase : base ≤ Bd ∧ base ≤ Ba ∧ base ≤ Bb) (htop : Bd < top ∧ Ba < top ∧ Bb < top) (hD : W.heap[Bd]? = some (.cells #[v] 22)) (hA : W.heap[Ba]? = some (.cells #[.int .i64 i, .int .i64 p] 24)) (hB : W.heap[Bb]? = some (.cells #[.int .i64 j, .int .i64 q] 24))
  (hij : i ≤ j) (hj : j < d.length) (hok : ∀ k, i ≤ k → k ≤ j → RowOk d (rowB d i p j q k)) (hlen : d.length ≤ 100000) (hJ : AbidesFrom W.heap.size J)
  (hY : ∀ (pre : List (RowX d)) (x : RowX d) W, J pre W → pre.length < 200000 → YieldAt Fence.wide (n - 1) Tryz.prog l (rowEnc x) W fun e W' =>
   (e = .returned (.bool true) ∧ J (pre ++ [x]) W' ∧ Kb w0.heap.size base top W W') ∨ (e = .returned (.bool false) ∧ Jx (pre ++ [x]) W'))
  (h0 : J [] W) :
  CallsIn Fence.wide n Tryz.prog 199 #[.func (.yield l) #[] #[], .pointer (some ⟨Ba, 0, none⟩), .pointer (some ⟨Bb, 0, none⟩), .pointer (some ⟨Bd, 0, none⟩)] W fun e W' => (∃ v, e = .returned v) ∧
   ((∃ ys : List (RowX d), ys.map (·.1) = rowsTo d i p j q (j + 1) ∧ J ys W') ∨ (∃ pre, True ∧ Jx pre W')) := by
 refine callsIn_of_wp Tryz.func199 rfl trivial ?_ rfl
 simp only [Tryz.ntmps199, List.size_toArray, List.length_cons, List.length_nil, Nat.reduceAdd, Nat.reduceSub, Array.replicate_succ, Array.replicate_zero, List.push_toArray, List.append_toArray, List.nil_append, List.cons_append]
 have hwf : ∀ f, Fence.wide.fn f := fun _ => trivial
 have hwd : Fence.wide.depth = none := rfl
 obtain ⟨va, vc, rfl, hvc, hvm, hx⟩ := lins_shape hv
 have HX := Lib.hid hx
 have HY := Lib.hid hY
 have HOK := Lib.hid hok
 have HJA := Lib.hid hJ
 have HBK := Lib.hid (And.intro hD (And.intro hA hB))
 obtain ⟨p1, f1⟩ := blk hD
 obtain ⟨p2, f2⟩ := blk hA
 obtain ⟨p3, f3⟩ := blk hB
 unfold maxLen at hvm
 clear hx hv hY hok hJ hD hA hB
 gi_wp2_with fail
 clear p1 f1 p2 f2 p3 f3
 gi_loopw [5, 6, 7] (fun z _ _ wr => ∃ (k : Nat) (pre : List (RowX d)), i ≤ k ∧ k ≤ j + 1 ∧ pre.length ≤ k ∧ z = .int .i64 k ∧ Hid (pre.map (·.1) = rowsTo d i p j q k) ∧ J pre wr ∧ Below w0.heap.size w0 wr ∧ Hid (wr.heap[Bd]? = some (.cells #[.slice va d.length vc] 22) ∧ wr.heap[Ba]? = some (.cells #[.int .i64 i, .int .i64 p] 24) ∧ wr.heap[Bb]? = some (.cells #[.int .i64 j, .int .i64 q] 24)) ∧ W.heap.size ≤ wr.heap.size)
  (fun z _ _ _ => j + 1 - (intOf z).toNat)
 case atStart => exact ⟨i, [], Nat.le_refl _, by omega, Nat.zero_le _, rfl, Lib.hid (rowsTo_nil ..).symm, h0, hb0, HBK, Nat.le_refl _⟩
 case round =>
  obtain ⟨k, pre, hk1, hk2, hpl, rfl, HP, hJs, hb1, HBL, hz1⟩ := hrel
  obtain ⟨p1, f1⟩ := blk HBL.out.1
  obtain ⟨p2, f2⟩ := blk HBL.out.2.1
  obtain ⟨p3, f3⟩ := blk HBL.out.2.2
  by_cases hlt : k ≤ j
  ·obtain ⟨l0, hl0, _⟩ := getOf d k (by omega)
   obtain ⟨b, o, la, lc, ca, cc, rfl, hAk⟩ := HX.out k l0 hl0
   obtain ⟨_, c0, c1, c2, c3, _, _⟩ := hAk.below hb1
   have HL0 := Lib.hid (rowB_len d (i := i) (p := p) (j := j) (q := q) hl0)
   have hd1 : Below wr.heap.size wr wr.drew := (Below.refl _ _).drew
   have HD1 := Lib.hid hd1
   have HJ1 := Lib.hid (abides_below (X := wr) (Y := wr.drew) HJA.out hJs hd1)
   have i0 : (0 : Int) ≤ (k : Int) := Int.natCast_nonneg _
   have i1 : (k : Int) < (d.length : Int) := by omega
   have hNext : ∀ w7, J (pre ++ [⟨rowB d i p j q k, HOK.out k hk1 hlt⟩]) w7 → Kb w0.heap.size base top wr.drew w7 → ∃ (k' : Nat) (pre : List (RowX d)), i ≤ k' ∧ k' ≤ j + 1 ∧ pre.length ≤ k' ∧ k' = k + 1 ∧ Hid (pre.map (·.1) = rowsTo d i p j q k') ∧ J pre w7 ∧ Below w0.heap.size w0 w7 ∧ Hid (w7.heap[Bd]? = some (.cells #[.slice (some ⟨b, o, none⟩) d.length vc] 22) ∧ w7.heap[Ba]? = some (.cells #[.int .i64 i, .int .i64 p] 24) ∧ w7.heap[Bb]? = some (.cells #[.int .i64 j, .int .i64 q] 24)) ∧ W.heap.size ≤ w7.heap.size := by
    intro w7 hj7 hk7
    refine ⟨k + 1, _, by omega, by omega, by simp; omega, rfl, Lib.hid ?_, hj7, (below_from hb1 HD1.out).trans hk7.below, Lib.hid ⟨hk7.cells _ _ hbase.1 htop.1 HBL.out.1 rfl, hk7.cells _ _ hbase.2.1 htop.2.1 HBL.out.2.1 rfl, hk7.cells _ _ hbase.2.2 htop.2.2 HBL.out.2.2 rfl⟩, Nat.le_trans hz1 hk7.below.size⟩
    rw [rowsTo_step d hk1, List.map_append, HP.out]
    rfl
   have HNX := Lib.hid hNext
   have hYY := HY.out pre ⟨rowB d i p j q k, HOK.out k hk1 hlt⟩ wr.drew HJ1.out (by omega)
   have hrow : rowEnc (⟨rowB d i p j q k, HOK.out k hk1 hlt⟩ : RowX d) = #[.int .i64 k, .agg #[.int .i64 ((if k = i then p else 0 : Nat) : Int), .int .i64 ((if k = j then q else l0.cells.length : Nat) : Int)]] := by unfold rowEnc; simp only [HL0.out]
   rw [hrow] at hYY
   clear hAk hl0 hNext hJs HJ1 HL0 hrow
   rcases (show k = i ∧ k = j ∨ k = i ∧ ¬ k = j ∨ ¬ k = i ∧ k = j ∨ ¬ k = i ∧ ¬ k = j by omega) with ⟨e1, e2⟩ | ⟨e1, e2⟩ | ⟨e1, e2⟩ | ⟨e1, e2⟩
   ·rw [if_pos e1, if_pos e2] at hYY
    have hq1 : ((k : Int) == (i : Int)) = true := by simp; omega
    have hq2 : ((k : Int) == (j : Int)) = true := by simp; omega
    have hq3 : decide ((k : Int) ≤ (j : Int)) = true := by simp; omega
    try rw [show ((0 : Nat) : Int) = 0 from rfl] at hYY
    obtain ⟨fn, tmps, assign, body, hy, hR⟩ := hYY
    clear e1 e2
    gi_wp2_with fail
    gi_region
    gi_wp2_with fail
    refine hR.mono ?_
    rintro e w7 (⟨rfl, hJ7, hk7⟩ | ⟨rfl, hJx7⟩)
    ·gi_wp2_with fail
     obtain ⟨k', pre', g1, g2, g3, e3, g4, g5, g6, g7, g8⟩ := HNX.out w7 hJ7 hk7
     go_roundw
     case rel => exact ⟨k', pre', g1, g2, g3, by rw [e3]; go_num, g4, g5, g6, g7, g8⟩
     case measure => simp [intOf]; omega
    ·gi_wp2_with fail
     refine bodyPost_ret (results_none rfl _ _ _) rfl ?_
     exact ⟨⟨_, rfl⟩, .inr ⟨_, trivial, hJx7⟩⟩
   ·rw [if_pos e1, if_neg e2] at hYY
    have hq1 : ((k : Int) == (i : Int)) = true := by simp; omega
    have hq2 : ((k : Int) == (j : Int)) = false := by simp; omega
    have hq3 : decide ((k : Int) ≤ (j : Int)) = true := by simp; omega
    try rw [show ((0 : Nat) : Int) = 0 from rfl] at hYY
    obtain ⟨fn, tmps, assign, body, hy, hR⟩ := hYY
    clear e1 e2
    gi_wp2_with fail
    gi_region
    gi_wp2_with fail
    refine hR.mono ?_
    rintro e w7 (⟨rfl, hJ7, hk7⟩ | ⟨rfl, hJx7⟩)
    ·gi_wp2_with fail
     obtain ⟨k', pre', g1, g2, g3, e3, g4, g5, g6, g7, g8⟩ := HNX.out w7 hJ7 hk7
     go_roundw
     case rel => exact ⟨k', pre', g1, g2, g3, by rw [e3]; go_num, g4, g5, g6, g7, g8⟩
     case measure => simp [intOf]; omega
    ·gi_wp2_with fail
     refine bodyPost_ret (results_none rfl _ _ _) rfl ?_
     exact ⟨⟨_, rfl⟩, .inr ⟨_, trivial, hJx7⟩⟩
   ·rw [if_neg e1, if_pos e2] at hYY
    have hq1 : ((k : Int) == (i : Int)) = false := by simp; omega
    have hq2 : ((k : Int) == (j : Int)) = true := by simp; omega
    have hq3 : decide ((k : Int) ≤ (j : Int)) = true := by simp; omega
    try rw [show ((0 : Nat) : Int) = 0 from rfl] at hYY
    obtain ⟨fn, tmps, assign, body, hy, hR⟩ := hYY
    clear e1 e2
    gi_wp2_with fail
    gi_region
    gi_wp2_with fail
    refine hR.mono ?_
    rintro e w7 (⟨rfl, hJ7, hk7⟩ | ⟨rfl, hJx7⟩)
    ·gi_wp2_with fail
     obtain ⟨k', pre', g1, g2, g3, e3, g4, g5, g6, g7, g8⟩ := HNX.out w7 hJ7 hk7
     go_roundw
     case rel => exact ⟨k', pre', g1, g2, g3, by rw [e3]; go_num, g4, g5, g6, g7, g8⟩
     case measure => simp [intOf]; omega
    ·gi_wp2_with fail
     refine bodyPost_ret (results_none rfl _ _ _) rfl ?_
     exact ⟨⟨_, rfl⟩, .inr ⟨_, trivial, hJx7⟩⟩
   ·rw [if_neg e1, if_neg e2] at hYY
    have hq1 : ((k : Int) == (i : Int)) = false := by simp; omega
    have hq2 : ((k : Int) == (j : Int)) = false := by simp; omega
    have hq3 : decide ((k : Int) ≤ (j : Int)) = true := by simp; omega
    try rw [show ((0 : Nat) : Int) = 0 from rfl] at hYY
    obtain ⟨fn, tmps, assign, body, hy, hR⟩ := hYY
    clear e1 e2
    gi_wp2_with fail
    gi_region
    gi_wp2_with fail
    refine hR.mono ?_
    rintro e w7 (⟨rfl, hJ7, hk7⟩ | ⟨rfl, hJx7⟩)
    ·gi_wp2_with fail
     obtain ⟨k', pre', g1, g2, g3, e3, g4, g5, g6, g7, g8⟩ := HNX.out w7 hJ7 hk7
     go_roundw
     case rel => exact ⟨k', pre', g1, g2, g3, by rw [e3]; go_num, g4, g5, g6, g7, g8⟩
     case measure => simp [intOf]; omega
    ·gi_wp2_with fail
     refine bodyPost_ret (results_none rfl _ _ _) rfl ?_
     exact ⟨⟨_, rfl⟩, .inr ⟨_, trivial, hJx7⟩⟩
  ·obtain rfl : k = j + 1 := by omega
   gi_wp2_with fail
   go_end0
   exact ⟨⟨_, rfl⟩, .inl ⟨pre, HP.out, hJs⟩⟩
theorem wpListIn_append_R {F : Fence} {m : Nat} {P : Program} (w : World) {ops : Array Oper} {rest : List Oper} {o : Oper} {a : Act} {Q : Exit → Act → World → Prop} (hgd : o.guard = none) (s x : Operand) (st tx : TypeId)
  (ho : o.op = .call { callee := .builtin .append, args := #[s, x], argTypes := #[st, tx] }) {t : TypeId} {k : Nat} (hT : RowT P st t k) {α : Type} {R : Rd α} (hE : Elt t k R) (n : Nat) (v y : Value) {xs ys : List α} {news : List Value} (hs : a.eval s = v) (hx : a.eval x = y)
  (h1 : SliceR t k R true w (fun b => n ≤ b) v xs) (hn : n ≤ w.heap.size) (hsrc : Src P k tx y ys.length news w) (hnew : NewsR k R w (fun b => n ≤ b) news ys) (hlen : xs.length + ys.length ≤ 100000000)
  (h : ∀ v' w', SliceR t k R true w' (fun b => n ≤ b) v' (xs ++ ys) → Below n w w' → w.grownBy w' v.ownBlock → (v'.ownBlock = v.ownBlock ∨ v'.ownBlock = some w.heap.size) → wpListIn F m P ops Q rest (a.put o.dst v') w') :
  wpListIn F m P ops Q (o :: rest) a w := by
 refine wpListIn_plain hgd fun K hK => ?_
 obtain ⟨v', w', hr, h2, h3, h4, h5⟩ := append_R (P := P) (ty := o.type) hT hE h1 hn hsrc hnew hlen
 unfold Oper.wpIn
 refine ⟨?_, ?_⟩
 ·simp [Oper.about, ho, resolve, Target.leads, Sem.run_pure]
 ·rw [Oper.semAt_plain F _ _ (by rw [ho]; intro c hc'; cases hc')]
  simp [execOp, ho, resolve, invoke, builtin, hs, hx, hr, Result.andThen]
  exact hK _ _ (h v' w' h2 h3 h4 h5)
theorem append_keeps {α : Type} {t : TypeId} {k : Nat} {R : Rd α} {w w' : World} {S : Nat → Prop} {v : Value} {xs : List α} (h : SliceR t k R true w S v xs) (hne : v = .slice none 0 0 ∨ xs ≠ []) (hg : w.grownBy w' v.ownBlock) : KeepsOthers w w' :=
 KeepsOthers.of_grownBy hg fun j o ej hj => by
  obtain ⟨a, c, rfl, _, _, hx⟩ := h
  rcases hx with ⟨rfl, hc0⟩ | ⟨b, o', rfl, _, _, hf, _⟩
  ·rcases hne with e | e
   ·cases e
    cases ej
   ·exact absurd rfl e
  ·obtain ⟨cs, h1, _⟩ := hf rfl
   have ej : some b = some j := ej
   cases ej
   rw [h1] at hj
   cases hj
   rfl
end Go.Proofs.YtpndnbjpnajaaaaGreatDoor
namespace Go.Proofs.YtpndnbjpnajaaaaGreatDoor
open Go.RowKit
open Go.Proofs.Qw
theorem wpList_named {P : Program} {ops : Array Oper} {Q : Exit → Act → World → Prop} {l : List Oper} {a : Act} {w : World} (h : ∀ w', w = w' → wpList P ops Q l a w') : wpList P ops Q l a w := h w rfl
set_option maxRecDepth 100000 in
set_option maxHeartbeats 2000000 in
theorem lineFrame_any (l : Lin) (a b : Value) (o1 o2 : Bool) (w w0 : World) (S : Nat → Prop) (hL : IntsR o1 w0 S a l.lists) (hC : CelsR o2 w0 S b l.cells) (h0 : Below w0.heap.size w0 w) (hs : l.lists.length ≤ 1000000 ∧ l.cells.length ≤ 1000000) :
  Calls Tryz.prog 135 #[linV l a b] w fun e w' => ∃ a', e = .returned (linV l a' (.slice none 0 0)) ∧ IntsR true w' (fun b => w.heap.size ≤ b) a' l.lists ∧ Below w.heap.size w w' := by
 have HO : Hid (∀ W, Below w0.heap.size w0 W → Calls Tryz.prog 181 #[linV l a b] W fun e w' => ∃ a' b', e = .returned (linV l a' b') ∧ IntsR true w' (fun b => W.heap.size ≤ b) a' l.lists ∧ CelsR true w' (fun b => W.heap.size ≤ b) b' l.cells ∧ Below W.heap.size W w') := Lib.hid fun W hW => lineOwn_any l a b o1 o2 W w0 S hL hC hW hs
 obtain ⟨la, lc, rfl⟩ := hL.slice
 obtain ⟨ca, cc, rfl⟩ := hC.slice
 obtain ⟨W1, hW1, hB, hz, hA1, hA2⟩ := two_lines w (.int .i64 l.quote) (.slice la l.lists.length lc) (.int .i64 l.kind) (.slice ca l.cells.length cc) (.int .i64 0) (.slice none 0 0) (.int .i64 0) (.slice none 0 0)
 have hs1 := hB.size
 have HB0 : Hid (∀ W, Below W1.heap.size W1 W → W.heap[w.heap.size]? = some (.cells #[.int .i64 l.quote, .slice la l.lists.length lc, .int .i64 l.kind, .slice ca l.cells.length cc] 42)) := Lib.hid fun W hW => heap_below hW hA1
 have HB1 : Hid (∀ W, Below W1.heap.size W1 W → W.heap[w.heap.size + 1]? = some (.cells #[.int .i64 0, .slice none 0 0, .int .i64 0, .slice none 0 0] 42)) := Lib.hid fun W hW => heap_below hW hA2
 have H1 := Lib.hid hB
 have h01 : Below w0.heap.size w0 W1 := below_from h0 hB
 obtain ⟨p1, f1⟩ := blk hA1
 obtain ⟨p2, f2⟩ := blk hA2
 clear hL hC hs hB h0
 unfold linV at HO ⊢
 go_enter Tryz.func135, Tryz.ntmps135
 go_wp2_with (first | (go_at_call 181; refine (HO.out _ h01).mono ?_; rintro e w2 ⟨a', b', rfl, ha', hb', hb2⟩; obtain ⟨a1, c1, rfl⟩ := ha'.slice; obtain ⟨a2, c2, rfl⟩ := hb'.slice; have hA3 := HB0.out _ hb2; have hA4 := HB1.out _ hb2; obtain ⟨p3, f3⟩ := blk hA3; obtain ⟨p4, f4⟩ := blk hA4) | (with_reducible show wpList _ _ _ _ _ _; refine wpList_load_row rfl 42 _ rfl w.heap.size rfl 42 #[.int .i64 l.quote, .slice a1 l.lists.length c1, .int .i64 l.kind, .slice none 0 0] (0, 0) _ (by simp [heap_set, putIn, hA3]) Tryz.underlying42 rfl (by kernel_rfl) ?_; with_reducible refine wpList_named ?_; intro w3 hw3; have hA5 : w3.heap[w.heap.size + 1]? = some (.cells #[.int .i64 0, .slice none 0 0, .int .i64 0, .slice none 0 0] 42) := (by rw [← hw3]; simp [heap_set, hA4]); obtain ⟨p5, f5⟩ := blk hA5; clear p3 f3 p4 f4))
 refine bodyPost_ret (results_line rfl _ _ (w.heap.size + 1) (.int .i64 l.quote) (.slice a1 l.lists.length c1) (.int .i64 l.kind) (.slice none 0 0) rfl (by simp [heap_set, putIn, hA5])) rfl ?_
 have s2 := hb2.size
 have hfin := H1.out.trans (hb2.mono hs1)
 have hf3 : Below w.heap.size w w3 := by rw [← hw3]; (repeat' (first | (with_reducible exact Below.refl _ _) | (with_reducible assumption) | (with_reducible refine Below.alloc ?_ ?_ _) | (with_reducible refine Below.drew ?_) | (with_reducible refine drewN_below ?_) | (with_reducible refine Below.setCell ?_ ?_ _) | go_size))
 have hi3 : IntsR true w3 (fun b => W1.heap.size ≤ b) (.slice a1 l.lists.length c1) l.lists := by rw [← hw3]; exact (SliceR.stable (rdOf_stable _) ha' (by (repeat' (first | (with_reducible exact Keeps.refl _ _) | (with_reducible refine Keeps.set ?_ ?_ _) | (with_reducible refine Keeps.alloc ?_ _) | (with_reducible refine Keeps.drew ?_) | (first | fail) | (simp; omega)))) (fun b h _ => (by have h' := h; (try simp at h'); omega)))
 exact ⟨_, rfl, (SliceR.stable (rdOf_stable _) hi3 (by (repeat' (first | (with_reducible exact Keeps.refl _ _) | (with_reducible refine Keeps.set ?_ ?_ _) | (with_reducible refine Keeps.alloc ?_ _) | (with_reducible refine Keeps.drew ?_) | (first | fail) | (simp; omega)))) (fun b h _ => (by have h' := h; (try simp at h'); omega))), by (repeat' (first | (with_reducible exact Below.refl _ _) | (with_reducible assumption) | (with_reducible refine Below.alloc ?_ ?_ _) | (with_reducible refine Below.drew ?_) | (with_reducible refine drewN_below ?_) | (with_reducible refine Below.setCell ?_ ?_ _) | go_size))⟩
def splitL (l : Lin) (p : Nat) : Lin × Lin := ({ l with cells := l.cells.take p }, if l.cells.length ≤ p then { l with kind := 0, cells := [] } else { l with cells := l.cells.drop p })
theorem results_lines2 {fn : Func} {p q u : Tmp} (h : fn.results = #[.cell p 42, .cell q 42, .tmp u]) (tmps : Array Value) (w : World) (B C : Nat) (x1 x2 x3 x4 y1 y2 y3 y4 : Value) (hp : tmps.getD p undef = .pointer (some ⟨B, 0, none⟩)) (hq : tmps.getD q undef = .pointer (some ⟨C, 0, none⟩))
  (hB : w.heap[B]? = some (.cells #[x1, x2, x3, x4] 42)) (hC : w.heap[C]? = some (.cells #[y1, y2, y3, y4] 42)) :
  (results fn tmps).run Tryz.prog w = .ok (.tuple #[.agg #[x1, x2, x3, x4], .agg #[y1, y2, y3, y4], tmps.getD u undef]) w := by
 have h1 := run_loadVar_row (P := Tryz.prog) w B 42 42 _ _ _ hB Tryz.underlying42 rfl (by kernel_rfl)
 have h2 := run_loadVar_row (P := Tryz.prog) w C 42 42 _ _ _ hC Tryz.underlying42 rfl (by kernel_rfl)
 have hp' : tmps[p]?.getD undef = .pointer (some ⟨B, 0, none⟩) := by simpa using hp
 have hq' : tmps[q]?.getD undef = .pointer (some ⟨C, 0, none⟩) := by simpa using hq
 simp [results, h, hp', hq', asAddr, h1, h2]
theorem SliceR.caps {α : Type} {t : TypeId} {k : Nat} {R : Rd α} {own : Bool} {w : World} {S : Nat → Prop} {xs : List α} {a : Option Addr} {n c : Nat} (h : SliceR t k R own w S (.slice a n c) xs) {m : Nat} (hn : xs.length ≤ m) (hm : m ≤ c) : SliceR t k R own w S (.slice a n m) xs := by
 obtain ⟨a', c', e, hc, hcm, hx⟩ := h
 cases e
 refine ⟨a, m, rfl, hn, by omega, ?_⟩
 rcases hx with ⟨rfl, h0⟩ | ⟨b, o, rfl, hb, hz, hf, he⟩
 ·exact .inl ⟨rfl, fun ho => by have := h0 ho; omega⟩
 ·refine .inr ⟨b, o, rfl, hb, hz, fun ho => ?_, he⟩
  obtain ⟨cs, g1, g2⟩ := hf ho
  exact ⟨cs, g1, Nat.le_trans (Nat.add_le_add_left (Nat.mul_le_mul_right _ hm) _) g2⟩
theorem cells_drop {Y : World} {S : Nat → Prop} {a : Option Addr} {n c p : Nat} {xs : List Cel} (h : CelsR true Y S (.slice a n c) xs) (hp : p ≤ xs.length) (hcp : ¬ c = p) : CelsR true Y S (.slice (Option.map (fun x => x.add (p * 3)) a) (xs.length - p) (c - p)) (xs.drop p) := by
 have := SliceR.part h (i := p) (j := xs.length) (m := c) hp (Nat.le_refl _) h.len.2.1 (Nat.le_refl _)
 rw [List.take_of_length_le (by rw [List.length_drop]; omega)] at this
 simpa only [sliced, if_neg hcp] using this
theorem wp_named {P : Program} {c : Code} {Q : Exit → Act → World → Prop} {a : Act} {w : World} (h : ∀ w', w = w' → c.wp P Q a w') : c.wp P Q a w := h w rfl
theorem drew_heap (w : World) : w.drew.heap = w.heap := rfl
theorem set_four (X : World) (B : Nat) (t : TypeId) (z1 z2 z3 z4 x1 x2 x3 x4 : Value) (h : X.heap[B]? = some (.cells #[z1, z2, z3, z4] t)) : ∃ Y, (((X.setCell ⟨B, 0, none⟩ x1).setCell ⟨B, 1, none⟩ x2).setCell ⟨B, 2, none⟩ x3).setCell ⟨B, 3, none⟩ x4 = Y ∧ Y.heap[B]? = some (.cells #[x1, x2, x3, x4] t) ∧ Y.heap.size = X.heap.size ∧
  (∀ b, b ≠ B → Y.heap[b]? = X.heap[b]?) ∧ (∀ n, n ≤ B → ∀ w, Below n w X → Below n w Y) := by
 refine ⟨_, rfl, by simp [heap_set, putIn, h], by simp, fun b hb => by simp [heap_set, Ne.symm hb], fun n hn w hw => ?_⟩
 exact (((hw.setCell hn _).setCell hn _).setCell hn _).setCell hn _
end Go.Proofs.YtpndnbjpnajaaaaGreatDoor
namespace Go.Proofs.YtpndnbjpnajaaaaGreatDoor
open Go.RowKit
open Go.Proofs.Qw
set_option maxHeartbeats 1000000 in
theorem refSpan_any (v : Value) (d : Doc) (a b : Ps) (w : World) (S : Nat → Prop) (h : LinsR w S v d) (hs : Small d) :
  Calls Tryz.prog 174 #[v, posV a, posV b] w fun e w' => e = .returned (.bool (spanD d a b)) ∧ Below w.heap.size w w' := by
 obtain ⟨W1, hW1, hB, hz, hA1, hA2⟩ := two_pos w (.int .i64 a.line) (.int .i64 a.col) (.int .i64 b.line) (.int .i64 b.col)
 have hs1 := hB.size
 have hv := h.below (rdLin_stable _) hB
 have HC1 := Lib.hid (refMay_any v d W1 S hv hs)
 have HC2 : Hid (∀ p W, Below W1.heap.size W1 W → Calls Tryz.prog 144 #[v, posV p] W fun e w' => e = .returned (.bool (isD d p)) ∧ Below W.heap.size W w') := Lib.hid fun p W hW => refIs_any v d p W S (hv.below (rdLin_stable _) hW)
 have HC3 : Hid (∀ W, Calls Tryz.prog 32 #[posV a, posV b] W fun e w' => e = .returned (.int .i64 (cmpP a b)) ∧ Below W.heap.size W w') := Lib.hid fun W => refCmp_any a b W
 have HB : Hid (∀ W, Below W1.heap.size W1 W → W.heap[w.heap.size]? = some (.cells #[.int .i64 a.line, .int .i64 a.col] 24) ∧ W.heap[w.heap.size + 1]? = some (.cells #[.int .i64 b.line, .int .i64 b.col] 24)) := Lib.hid fun W hW => ⟨heap_below hW hA1, heap_below hW hA2⟩
 have HE : Hid (spanD d a b = (mayD d && (isD d a && (isD d b && decide (cmpP a b ≤ 0))))) := Lib.hid (by unfold spanD; rw [Bool.and_assoc, Bool.and_assoc])
 have HP : Hid (∀ p : Ps, posV p = .agg #[.int .i64 p.line, .int .i64 p.col]) := Lib.hid fun _ => rfl
 have H1 := Lib.hid hB
 obtain ⟨va, vc, rfl⟩ := h.slice
 clear h hs hz hA1 hA2 hB hv
 rw [HP.out a, HP.out b]
 generalize spanD d a b = r at *
 generalize mayD d = x at *
 generalize cmpP a b = u at *
 go_enter Tryz.func174, Tryz.ntmps174
 go_wp2_with (first
  | (go_at_call 62; refine HC1.out.mono ?_; rintro e w2 ⟨rfl, hb2⟩; obtain ⟨p3, f3⟩ := blk (HB.out _ hb2).1; obtain ⟨p4, f4⟩ := blk (HB.out _ hb2).2; cases x)
  | (go_at_call 144; refine (HC2.out _ _ (by assumption)).mono ?_; rintro e w3 ⟨rfl, hb3⟩; have hx3 : Below W1.heap.size W1 w3 := below_from (by assumption) hb3; clear hb3; obtain ⟨p5, f5⟩ := blk (HB.out _ hx3).1; obtain ⟨p6, f6⟩ := blk (HB.out _ hx3).2)
  | (go_at_call 32; refine (HC3.out _).mono ?_; rintro e w5 ⟨rfl, hb5⟩; have hx5 : Below W1.heap.size W1 w5 := below_from (by assumption) hb5; clear hb5))
 all_goals
  go_ret
  refine ⟨?_, H1.out.trans (Below.mono (by assumption) hs1)⟩
  rw [HE.out]
  refine congrArg Ending.returned (congrArg Value.bool ?_)
  clear HE HC1 HC2 HC3 HB HP H1
  simp (config := { failIfUnchanged := false }) [*]
set_option maxRecDepth 100000 in
set_option maxHeartbeats 2000000 in
theorem refFrom_any (v : Value) (d : Doc) (i p j q k : Nat) (w : World) (S : Nat → Prop) (h : LinsR w S v d) (hk : k < d.length) :
  Calls Tryz.prog 176 #[v, posV ⟨i, p⟩, posV ⟨j, q⟩, .int .i64 k] w fun e w' => e = .returned (.tuple #[.int .i64 (rowB d i p j q k).2.1, .int .i64 (rowB d i p j q k).2.2]) ∧ Below w.heap.size w w' := by
 obtain ⟨l, hl, _⟩ := getOf d k hk
 obtain ⟨W1, hW1, hB, hz, hA1, hA2⟩ := two_pos w (.int .i64 i) (.int .i64 p) (.int .i64 j) (.int .i64 q)
 have HB : Hid (∀ W, Below W1.heap.size W1 W → W.heap[w.heap.size]? = some (.cells #[.int .i64 i, .int .i64 p] 24) ∧ W.heap[w.heap.size + 1]? = some (.cells #[.int .i64 j, .int .i64 q] 24)) := Lib.hid fun W hW => ⟨heap_below hW hA1, heap_below hW hA2⟩
 have HR := Lib.hid (rowB_len d (i := i) (p := p) (j := j) (q := q) hl)
 have HP : Hid (∀ p : Ps, posV p = .agg #[.int .i64 p.line, .int .i64 p.col]) := Lib.hid fun _ => rfl
 have H1 := Lib.hid hB
 have hs1 := hB.size
 obtain ⟨va, vc, rfl, hvc, hvm, hx⟩ := lins_shape (h.below (rdLin_stable _) hB)
 obtain ⟨b, o, la, lc, ca, cc, rfl, hA⟩ := hx k l hl
 obtain ⟨_, _, _, _, c3, _, _⟩ := hA
 unfold maxLen at hvm
 have i0 : (0 : Int) ≤ (k : Int) := Int.natCast_nonneg _
 have i1 : (k : Int) < (d.length : Int) := by omega
 obtain ⟨p1, f1⟩ := blk hA1
 obtain ⟨p2, f2⟩ := blk hA2
 clear hx h hl hA1 hA2 hB
 rw [HP.out, HP.out]
 rcases (show k = i ∧ k = j ∨ k = i ∧ ¬ k = j ∨ ¬ k = i ∧ k = j ∨ ¬ k = i ∧ ¬ k = j by omega) with ⟨e1, e2⟩ | ⟨e1, e2⟩ | ⟨e1, e2⟩ | ⟨e1, e2⟩
 ·have HR2 : Hid (rowB d i p j q k = (k, _, _)) := Lib.hid (HR.out.trans (by rw [if_pos e1, if_pos e2]))
  have hq1 : ((k : Int) == (i : Int)) = true := by simp; omega
  have hq2 : ((k : Int) == (j : Int)) = true := by simp; omega
  clear e1 e2 HR
  go_enter Tryz.func176, Tryz.ntmps176
  go_wp2_with fail
  go_quiet (fail)
  have hk1 : Below W1.heap.size W1 (W1.drewN nq) := drewN_below (Below.refl _ _)
  obtain ⟨W2, hW2⟩ : ∃ W2, W1.drewN nq = W2 := ⟨_, rfl⟩
  rw [hW2] at hk1 ⊢
  clear p1 f1 p2 f2
  obtain ⟨p1, f1⟩ := blk (HB.out _ hk1).1
  obtain ⟨p2, f2⟩ := blk (HB.out _ hk1).2
  go_wp2_with fail
  go_ret2
  rw [HR2.out]
  exact ⟨rfl, H1.out.trans (hk1.mono hs1)⟩
 ·have HR2 : Hid (rowB d i p j q k = (k, _, _)) := Lib.hid (HR.out.trans (by rw [if_pos e1, if_neg e2]))
  have hq1 : ((k : Int) == (i : Int)) = true := by simp; omega
  have hq2 : ((k : Int) == (j : Int)) = false := by simp; omega
  clear e1 e2 HR
  go_enter Tryz.func176, Tryz.ntmps176
  go_wp2_with fail
  go_quiet (fail)
  have hk1 : Below W1.heap.size W1 (W1.drewN nq) := drewN_below (Below.refl _ _)
  obtain ⟨W2, hW2⟩ : ∃ W2, W1.drewN nq = W2 := ⟨_, rfl⟩
  rw [hW2] at hk1 ⊢
  clear p1 f1 p2 f2
  obtain ⟨p1, f1⟩ := blk (HB.out _ hk1).1
  obtain ⟨p2, f2⟩ := blk (HB.out _ hk1).2
  go_wp2_with fail
  go_ret2
  rw [HR2.out]
  exact ⟨rfl, H1.out.trans (hk1.mono hs1)⟩
 ·have HR2 : Hid (rowB d i p j q k = (k, _, _)) := Lib.hid (HR.out.trans (by rw [if_neg e1, if_pos e2]))
  have hq1 : ((k : Int) == (i : Int)) = false := by simp; omega
  have hq2 : ((k : Int) == (j : Int)) = true := by simp; omega
  clear e1 e2 HR
  go_enter Tryz.func176, Tryz.ntmps176
  go_wp2_with fail
  go_quiet (fail)
  have hk1 : Below W1.heap.size W1 (W1.drewN nq) := drewN_below (Below.refl _ _)
  obtain ⟨W2, hW2⟩ : ∃ W2, W1.drewN nq = W2 := ⟨_, rfl⟩
  rw [hW2] at hk1 ⊢
  clear p1 f1 p2 f2
  obtain ⟨p1, f1⟩ := blk (HB.out _ hk1).1
  obtain ⟨p2, f2⟩ := blk (HB.out _ hk1).2
  go_wp2_with fail
  go_ret2
  rw [HR2.out]
  exact ⟨rfl, H1.out.trans (hk1.mono hs1)⟩
 ·have HR2 : Hid (rowB d i p j q k = (k, _, _)) := Lib.hid (HR.out.trans (by rw [if_neg e1, if_neg e2]))
  have hq1 : ((k : Int) == (i : Int)) = false := by simp; omega
  have hq2 : ((k : Int) == (j : Int)) = false := by simp; omega
  clear e1 e2 HR
  go_enter Tryz.func176, Tryz.ntmps176
  go_wp2_with fail
  go_quiet (fail)
  have hk1 : Below W1.heap.size W1 (W1.drewN nq) := drewN_below (Below.refl _ _)
  obtain ⟨W2, hW2⟩ : ∃ W2, W1.drewN nq = W2 := ⟨_, rfl⟩
  rw [hW2] at hk1 ⊢
  clear p1 f1 p2 f2
  obtain ⟨p1, f1⟩ := blk (HB.out _ hk1).1
  obtain ⟨p2, f2⟩ := blk (HB.out _ hk1).2
  go_wp2_with fail
  go_ret2
  rw [HR2.out]
  exact ⟨rfl, H1.out.trans (hk1.mono hs1)⟩
theorem src_at {P : Program} {st t : TypeId} {k : Nat} (hT : RowT P st t k) (w : World) (l : List Value) (hl : l.length = k) (h1 : ∀ u ∈ l, u.oneCell' = true) (c : Nat) {B : Nat} (hB : B = w.heap.size) : Src P k st (.slice (some ⟨B, 0, none⟩) 1 c) 1 l (w.alloc (.cells l.toArray t)) := hB ▸ src_one hT w l hl h1 c
def partOf (d : Doc) (x : Nat × Nat × Nat) : Lin := { (d.getD x.1 default) with cells := cellsB d x }
def partD (d : Doc) (a b : Ps) : Doc × Int := if spanD d a b = true then ((rowsTo d a.line.toNat a.col.toNat b.line.toNat b.col.toNat (b.line.toNat + 1)).map (partOf d), 0) else ([], 1)
theorem partOf_at {d : Doc} {x : Nat × Nat × Nat} {l : Lin} (h : d[x.1]? = some l) : partOf d x = { l with cells := (l.cells.drop x.2.1).take (x.2.2 - x.2.1) } := by
 unfold partOf
 rw [cellsB_at h]
 simp [List.getD, h]
theorem sizeD_parts (d : Doc) : ∀ xs : List (Nat × Nat × Nat), sizeD (xs.map (partOf d)) = (cellsL d xs).length
 | [] => rfl
 | x :: xs => by
  have ih := sizeD_parts d xs
  simp only [sizeD, List.map_cons, List.sum_cons, cellsL, List.flatMap_cons, List.length_append] at ih ⊢
  rw [ih]
  rfl
theorem flat_parts (d : Doc) (xs : List (Nat × Nat × Nat)) : (xs.map (partOf d)).flatMap (·.cells) = cellsL d xs := by
 unfold cellsL
 rw [List.flatMap_map]
 rfl
set_option maxRecDepth 100000 in
set_option maxHeartbeats 8000000 in
theorem refPart_any (v : Value) (d : Doc) (a b : Ps) (w : World) (S : Nat → Prop) (h : LinsR w S v d) (hs : Small d) (hf : Fits d) :
  Calls Tryz.prog 157 #[v, posV a, posV b] w (DocSaid (partD d a b) w) := by
 obtain ⟨W1, hW1, hB, hz, hA1, hA2⟩ := two_pos w (.int .i64 a.line) (.int .i64 a.col) (.int .i64 b.line) (.int .i64 b.col)
 have hv := h.below (rdLin_stable _) hB
 have HC1 := Lib.hid (refSpan_any v d a b W1 S hv hs)
 have HB : Hid (∀ W, Below W1.heap.size W1 W → W.heap[w.heap.size]? = some (.cells #[.int .i64 a.line, .int .i64 a.col] 24) ∧ W.heap[w.heap.size + 1]? = some (.cells #[.int .i64 b.line, .int .i64 b.col] 24)) := Lib.hid fun W hW => ⟨heap_below hW hA1, heap_below hW hA2⟩
 have HP : Hid (∀ p : Ps, posV p = .agg #[.int .i64 p.line, .int .i64 p.col]) := Lib.hid fun _ => rfl
 have H1 := Lib.hid hB
 have HL := Lib.hid hv
 have HF := Lib.hid hf
 have hlen := hf.1
 have hs1 := hB.size
 obtain ⟨p1, f1⟩ := blk hA1
 obtain ⟨p2, f2⟩ := blk hA2
 obtain ⟨va, vc, rfl⟩ := h.slice
 clear h hs hf hA1 hA2 hB hv
 cases hsp : spanD d a b
 ·have HR : Hid (partD d a b = ([], 1)) := Lib.hid (by unfold partD; rw [hsp]; rfl)
  rw [hsp] at HC1
  clear hsp
  rw [HP.out a, HP.out b] at HC1 ⊢
  go_enter Tryz.func157, Tryz.ntmps157
  go_wp2_with (go_at_call 174; refine HC1.out.mono ?_; rintro e w2 ⟨rfl, hb2⟩)
  go_ret2
  unfold DocSaid
  rw [HR.out]
  exact ⟨_, rfl, SliceR.nil _ _ _ _ _ _, H1.out.trans (hb2.mono hs1)⟩
 obtain ⟨_, i, j, p, q, l, m, rfl, rfl, hl, hm, hp, hq, hij, hpq⟩ := span_at hsp
 have hjl := (List.getElem?_eq_some_iff.1 hm).1
 have HR : Hid (partD d ⟨i, p⟩ ⟨j, q⟩ = ((rowsTo d i p j q (j + 1)).map (partOf d), 0)) := Lib.hid (by unfold partD; rw [hsp, if_pos rfl]; rfl)
 have HOK : Hid (∀ k, i ≤ k → k ≤ j → RowOk d (rowB d i p j q k)) := Lib.hid fun k h1 h2 => rowB_ok hl hm hp hq hpq h1 h2
 rw [hsp] at HC1
 clear hsp hl hm hp hq hpq
 rw [HP.out, HP.out] at HC1 ⊢
 have HFR : Hid (∀ k W, k < d.length → Below W1.heap.size W1 W → Calls Tryz.prog 176 #[.slice va d.length vc, .agg #[.int .i64 i, .int .i64 p], .agg #[.int .i64 j, .int .i64 q], .int .i64 k] W fun e w' => e = .returned (.tuple #[.int .i64 (rowB d i p j q k).2.1, .int .i64 (rowB d i p j q k).2.2]) ∧ Below W.heap.size W w') := Lib.hid fun k W hk hW => refFrom_any _ d i p j q k W S (HL.out.below (rdLin_stable _) hW) hk
 go_enter Tryz.func157, Tryz.ntmps157
 go_wp2_with (go_at_call 174; refine HC1.out.mono ?_; rintro e w2 ⟨rfl, hb2⟩; obtain ⟨q1, g1⟩ := blk (HB.out _ hb2).1; obtain ⟨q2, g2⟩ := blk (HB.out _ hb2).2)
 clear p1 f1 p2 f2 q1 g1 q2 g2 hW1
 go_loopw [8, 9] (fun out z wr => ∃ k : Nat, i ≤ k ∧ k ≤ j + 1 ∧ z = .int .i64 k ∧ Hid (DocR true wr (fun b => W1.heap.size ≤ b) out ((rowsTo d i p j q k).map (partOf d))) ∧ Below W1.heap.size W1 wr) (fun _ z _ => j + 1 - (intOf z).toNat)
 case atStart => exact ⟨i, Nat.le_refl _, by omega, rfl, Lib.hid (by rw [rowsTo_nil]; exact SliceR.nil _ _ _ _ _ _), hb2⟩
 case round =>
  obtain ⟨k, hk1, hk2, rfl, HO, hb⟩ := hrel
  obtain ⟨p1, f1⟩ := blk (HB.out _ hb).1
  obtain ⟨p2, f2⟩ := blk (HB.out _ hb).2
  by_cases hlt : k ≤ j
  ·obtain ⟨ln, hln, _⟩ := getOf d k (by omega)
   have hfl := HF.out.2 ln (List.mem_of_getElem? hln)
   obtain ⟨ln', hln', hft, htl⟩ := HOK.out k hk1 hlt
   have hln' : d[k]? = some ln' := hln'
   rw [hln] at hln'
   cases hln'
   have HT : Hid ((rowsTo d i p j q (k + 1)).map (partOf d) = (rowsTo d i p j q k).map (partOf d) ++ [{ ln with cells := (ln.cells.drop (rowB d i p j q k).2.1).take ((rowB d i p j q k).2.2 - (rowB d i p j q k).2.1) }]) := Lib.hid (by
    rw [rowsTo_step d hk1, List.map_append, List.map_singleton, partOf_at (x := rowB d i p j q k) hln])
   have HFK := Lib.hid (fun W hW => HFR.out k W (by omega) hW)
   obtain ⟨xf, hxf⟩ : ∃ z, (rowB d i p j q k).2.1 = z := ⟨_, rfl⟩
   obtain ⟨xt, hxt⟩ : ∃ z, (rowB d i p j q k).2.2 = z := ⟨_, rfl⟩
   rw [hxf, hxt] at HFK HT hft
   rw [hxt] at htl
   obtain ⟨va', vc', hve, hvc, hvm, hx⟩ := lins_shape HL.out
   cases hve
   obtain ⟨b1, o1, la, lc, ca, cc, rfl, hAk⟩ := hx k ln hln
   have HAK := Lib.hid hAk
   have hccl := hAk.cellsR.len
   obtain ⟨row, hrow⟩ : ∃ row, (ln.cells.drop xf).take (xt - xf) = row := ⟨_, rfl⟩
   have hrl : row.length = xt - xf := by rw [← hrow, List.length_take, List.length_drop]; omega
   rw [hrow] at HT
   have HFM : Hid (∀ W, Below W1.heap.size W1 W → Calls Tryz.prog 182 #[linV ln (.slice la ln.lists.length lc) (.slice ca ln.cells.length cc)] W fun e w' => ∃ a', e = .returned (linV ln a' (.slice none 0 0)) ∧ IntsR true w' (fun b => W.heap.size ≤ b) a' ln.lists ∧ Below W.heap.size W w') := Lib.hid fun W hW => refFrame_any ln _ _ false false W S (hAk.below hW).listsR (hAk.below hW).cellsR hfl.1
   have hpair : ∃ X, Hid (∀ W', Below W1.heap.size W1 W' → Calls Tryz.prog 183 #[.slice X (xt - xf) (cc - xf)] W' fun e w' => ∃ v', e = .returned v' ∧ CelsR true w' (fun b => W'.heap.size ≤ b) v' row ∧ Below W'.heap.size W' w') ∧ ((cc = xf ∧ ca = X) ∨ (¬ cc = xf ∧ ca.map (·.add (xf * 3)) = X)) := by
    have hh : ∀ W', Below W1.heap.size W1 W' → CelsR false W' S (sliced ca xf xt cc 3) row := fun W' hW => by
     rw [← hrow]
     exact (hAk.below hW).cellsR.part (i := xf) (j := xt) (m := cc) hft htl (by omega) (Nat.le_refl _)
    by_cases hcq : cc = xf
    ·exact ⟨ca, Lib.hid fun W hW => refOwnC_any _ row false W S (by have := hh W hW; simpa only [sliced, if_pos hcq] using this) (by omega), .inl ⟨hcq, rfl⟩⟩
    ·exact ⟨_, Lib.hid fun W hW => refOwnC_any _ row false W S (by have := hh W hW; simpa only [sliced, if_neg hcq] using this) (by omega), .inr ⟨hcq, rfl⟩⟩
   obtain ⟨X, HOW, hcq⟩ := hpair
   unfold maxLen at hvm hccl
   have i0 : (0 : Int) ≤ (k : Int) := Int.natCast_nonneg _
   have i1 : (k : Int) < (d.length : Int) := by omega
   have u0 : (0 : Int) ≤ (xf : Int) := Int.natCast_nonneg _
   have u1 : (xf : Int) ≤ (xt : Int) := by omega
   have u2 : (xt : Int) ≤ (cc : Int) := by omega
   have hlr : ((rowsTo d i p j q k).map (partOf d)).length ≤ 1000000 := by simp [rowsTo]; omega
   have hwb := hb.size
   have HO2 := Lib.hid (SliceR.bounded (rdLin_stable true) HO.out)
   clear hx hAk hln hln' hrow hxf hxt hfl hft htl HFR HO hrl
   unfold linV at HFM
   rcases hcq with ⟨hcq, hX⟩ | ⟨hcq, hX⟩
   ·subst hcq ; subst hX ; have hee : xt = cc := (by omega) ; subst hee ; rw [Nat.sub_self] at HOW
    go_wp2_with (first
     | (go_at_call 176; refine (HFK.out _ hb).mono ?_; rintro e w3 ⟨rfl, hb3⟩; have hx3 := below_from hb hb3; obtain ⟨_, c0, c1, c2, c3, _, _⟩ := HAK.out.below hx3)
     | (go_at_call 182; refine (HFM.out _ hx3).mono ?_; rintro e w4 ⟨a', rfl, ha4, hb4⟩; obtain ⟨a4, c4, rfl⟩ := ha4.slice; have hx4 := below_from hx3 hb4; obtain ⟨_, _, _, _, d3, _, _⟩ := HAK.out.below hx4; have d3a := cell_on d3; have hz34 := hb3.size; have hz44 := hb4.size; have HI4 := Lib.hid (SliceR.bounded (rdOf_stable _) ha4); clear ha4)
     | (go_at_call 183; refine (HOW.out _ (hx4.alloc hx4.size _)).mono ?_; rintro e w6 ⟨v6, rfl, hv6, hb6⟩; obtain ⟨a6, c6, rfl⟩ := hv6.slice; have m6 := heap_below hb6 (heap_new _ _ rfl); obtain ⟨r6, s6⟩ := blk m6; have hx6 := below_from (hx4.alloc hx4.size _) hb6; have hb46 : Below w4.heap.size w4 w6 := below_from ((Below.refl _ _).alloc (Nat.le_refl _) _) hb6; have hbr6 : Below wr.heap.size wr w6 := below_from hb3 (below_from hb4 hb46); have hz6 := hx6.size; have HV6 := Lib.hid hv6; clear hv6)
     | (at_builtin; refine wpList_append_R _ rfl _ _ 22 22 rfl rowLine eltLine W1.heap.size _ _ (xs := (rowsTo d i p j q k).map (partOf d)) (ys := [{ ln with cells := row }]) (news := [.int .i64 ln.quote, .slice a4 ln.lists.length c4, .int .i64 ln.kind, .slice a6 row.length c6]) rfl rfl (HO2.out.stable (rdLin_stable _) (((Keeps.all hbr6).set (fun hh => (Nat.not_lt.2 (Nat.le_trans hz34 hz44)) hh.2) _).alloc _) (fun _ h _ => h.1)) (by simp; omega) (src_at rowLine (w6.setCell ⟨w4.heap.size, 3, none⟩ (.slice a6 row.length c6)) _ rfl (oneV_line _ _ _ _ _ _ _) 1 (by simp)) (NewsR.one rfl ⟨_, _, rfl, HI4.out.stable (rdOf_stable _) (((Keeps.all hb46).set (fun hh => (Nat.lt_irrefl _) hh.2) _).alloc _) (fun b h _ => Nat.le_trans (Nat.le_trans hwb hz34) h.1), HV6.out.stable (rdOf_stable _) (((Keeps.refl _ _).set (by simp) _).alloc _) (fun b h _ => by have h' := h; simp at h'; omega)⟩) (by simp [rowsTo]; omega) ?_; intro v' w7 hR hB7 _ _; rw [← HT.out] at hR; have HR7 := Lib.hid hR; have HB7 := Lib.hid hB7; clear hR hB7))
    go_roundw
    case rel => exact ⟨k + 1, by omega, by omega, by go_num, Lib.hid HR7.out, ((hx6.setCell (by show W1.heap.size ≤ w4.heap.size; omega) _).alloc (by simp; omega) _).trans HB7.out⟩
    case measure => simp [intOf]; omega
   ·subst hX
    go_wp2_with (first
     | (go_at_call 176; refine (HFK.out _ hb).mono ?_; rintro e w3 ⟨rfl, hb3⟩; have hx3 := below_from hb hb3; obtain ⟨_, c0, c1, c2, c3, _, _⟩ := HAK.out.below hx3)
     | (go_at_call 182; refine (HFM.out _ hx3).mono ?_; rintro e w4 ⟨a', rfl, ha4, hb4⟩; obtain ⟨a4, c4, rfl⟩ := ha4.slice; have hx4 := below_from hx3 hb4; obtain ⟨_, _, _, _, d3, _, _⟩ := HAK.out.below hx4; have d3a := cell_on d3; have hz34 := hb3.size; have hz44 := hb4.size; have HI4 := Lib.hid (SliceR.bounded (rdOf_stable _) ha4); clear ha4)
     | (go_at_call 183; refine (HOW.out _ (hx4.alloc hx4.size _)).mono ?_; rintro e w6 ⟨v6, rfl, hv6, hb6⟩; obtain ⟨a6, c6, rfl⟩ := hv6.slice; have m6 := heap_below hb6 (heap_new _ _ rfl); obtain ⟨r6, s6⟩ := blk m6; have hx6 := below_from (hx4.alloc hx4.size _) hb6; have hb46 : Below w4.heap.size w4 w6 := below_from ((Below.refl _ _).alloc (Nat.le_refl _) _) hb6; have hbr6 : Below wr.heap.size wr w6 := below_from hb3 (below_from hb4 hb46); have hz6 := hx6.size; have HV6 := Lib.hid hv6; clear hv6)
     | (at_builtin; refine wpList_append_R _ rfl _ _ 22 22 rfl rowLine eltLine W1.heap.size _ _ (xs := (rowsTo d i p j q k).map (partOf d)) (ys := [{ ln with cells := row }]) (news := [.int .i64 ln.quote, .slice a4 ln.lists.length c4, .int .i64 ln.kind, .slice a6 row.length c6]) rfl rfl (HO2.out.stable (rdLin_stable _) (((Keeps.all hbr6).set (fun hh => (Nat.not_lt.2 (Nat.le_trans hz34 hz44)) hh.2) _).alloc _) (fun _ h _ => h.1)) (by simp; omega) (src_at rowLine (w6.setCell ⟨w4.heap.size, 3, none⟩ (.slice a6 row.length c6)) _ rfl (oneV_line _ _ _ _ _ _ _) 1 (by simp)) (NewsR.one rfl ⟨_, _, rfl, HI4.out.stable (rdOf_stable _) (((Keeps.all hb46).set (fun hh => (Nat.lt_irrefl _) hh.2) _).alloc _) (fun b h _ => Nat.le_trans (Nat.le_trans hwb hz34) h.1), HV6.out.stable (rdOf_stable _) (((Keeps.refl _ _).set (by simp) _).alloc _) (fun b h _ => by have h' := h; simp at h'; omega)⟩) (by simp [rowsTo]; omega) ?_; intro v' w7 hR hB7 _ _; rw [← HT.out] at hR; have HR7 := Lib.hid hR; have HB7 := Lib.hid hB7; clear hR hB7))
    go_roundw
    case rel => exact ⟨k + 1, by omega, by omega, by go_num, Lib.hid HR7.out, ((hx6.setCell (by show W1.heap.size ≤ w4.heap.size; omega) _).alloc (by simp; omega) _).trans HB7.out⟩
    case measure => simp [intOf]; omega
  ·obtain rfl : k = j + 1 := by omega
   have HBB := Lib.hid hb
   clear hb
   go_wp2_with fail
   go_ret2
   unfold DocSaid
   rw [HR.out]
   exact ⟨_, rfl, SliceR.stable (rdLin_stable true) HO.out (Keeps.refl _ _) (fun b h _ => Nat.le_trans hs1 h), H1.out.trans (HBB.out.mono hs1)⟩
theorem cellsL_size (d : Doc) (i p j q : Nat) : ∀ n : Nat, i + n ≤ d.length → (cellsL d (rowsTo d i p j q (i + n))).length ≤ sizeD (d.take (i + n))
 | 0, _ => by rw [Nat.add_zero, rowsTo_nil]; simp [cellsL]
 | n + 1, h => by
  have ih := cellsL_size d i p j q n (by omega)
  obtain ⟨l, hl, _⟩ := getOf d (i + n) (by omega)
  have hs := sizeD_step hl
  rw [show i + (n + 1) = i + n + 1 by omega, rowsTo_step d (by omega), cellsL_snoc, List.length_append]
  have : (cellsB d (rowB d i p j q (i + n))).length ≤ l.cells.length := by
   rw [cellsB_at (x := rowB d i p j q (i + n)) hl, List.length_take, List.length_drop]
   omega
  omega
theorem cellsD_size (d : Doc) (a b : Ps) : (cellsD d a b).length ≤ sizeD d := by
 unfold cellsD
 split
 ·rename_i h
  obtain ⟨_, i, j, p, q, l, m, rfl, rfl, hl, hm, _, _, hij, _⟩ := span_at h
  have hjl := (List.getElem?_eq_some_iff.1 hm).1
  have := cellsL_size d i p j q (j + 1 - i) (by omega)
  rw [show i + (j + 1 - i) = j + 1 by omega] at this
  exact Nat.le_trans this (sizeD_le d _)
 ·simp
theorem partD_size (d : Doc) (a b : Ps) : sizeD (partD d a b).1 = (cellsD d a b).length := by
 unfold partD cellsD
 split
 ·exact sizeD_parts d _
 ·rfl
theorem partD_flat (d : Doc) (a b : Ps) : (partD d a b).1.flatMap (·.cells) = cellsD d a b := by
 unfold partD cellsD
 split
 ·exact flat_parts d _
 ·rfl
set_option maxRecDepth 100000 in
set_option maxHeartbeats 4000000 in
theorem refCells_any (v : Value) (d : Doc) (a b : Ps) (w : World) (S : Nat → Prop) (h : LinsR w S v d) (hs : Small d) (hf : Fits d) :
  Calls Tryz.prog 89 #[v, posV a, posV b] w fun e w' => ∃ v', e = .returned v' ∧ CelsR true w' (fun b => w.heap.size ≤ b) v' (cellsD d a b) ∧ Below w.heap.size w w' := by
 obtain ⟨W1, hW1, hB, hz, hA1, hA2⟩ := two_pos w (.int .i64 a.line) (.int .i64 a.col) (.int .i64 b.line) (.int .i64 b.col)
 have HC := Lib.hid (refPart_any v d a b W1 S (h.below (rdLin_stable _) hB) hs hf)
 have HP : Hid (∀ p : Ps, posV p = .agg #[.int .i64 p.line, .int .i64 p.col]) := Lib.hid fun _ => rfl
 have HN := Lib.hid (partD_flat d a b)
 have HM : Hid (sizeD (partD d a b).1 ≤ 100000) := Lib.hid (by rw [partD_size]; exact Nat.le_trans (cellsD_size d a b) hs.1)
 have H1 := Lib.hid hB
 have hs1 := hB.size
 obtain ⟨p1, f1⟩ := blk hA1
 obtain ⟨p2, f2⟩ := blk hA2
 obtain ⟨va, vc, rfl⟩ := h.slice
 generalize partD d a b = r at *
 clear h hs hf hA1 hA2 hB
 rw [HP.out a, HP.out b] at HC ⊢
 obtain ⟨x, err⟩ := r
 go_enter Tryz.func89, Tryz.ntmps89
 go_wp2_with (go_at_call 157; refine HC.out.mono ?_; intro e w2 hsaid; obtain ⟨v2, rfl, hv2, hb2⟩ := hsaid; obtain ⟨a2, c2, rfl, hc2, hm2, hx2⟩ := lins_shape hv2.read; have HX := Lib.hid hx2; clear hv2 hx2)
 have hw2 : Below w.heap.size w w2 := H1.out.trans (hb2.mono hs1)
 have HW2 := Lib.hid hw2
 unfold maxLen at hm2
 clear p1 f1 p2 f2 hW1 hw2
 go_loopw [9, 10] (fun out z wr => ∃ k : Nat, k ≤ x.length ∧ z = .int .i64 k ∧ Hid (CelsR true wr (fun b => w2.heap.size ≤ b) out ((x.take k).flatMap (·.cells))) ∧ Below w2.heap.size w2 wr) (fun _ z _ => x.length - (intOf z).toNat)
 case atStart => exact ⟨0, Nat.zero_le _, rfl, Lib.hid (SliceR.nil _ _ _ _ _ _), Below.refl _ _⟩
 case round =>
  obtain ⟨k, hk, rfl, HO, hb⟩ := hrel
  by_cases hlt : k < x.length
  ·obtain ⟨ln, hln, _⟩ := getOf x k hlt
   obtain ⟨b1, o1, la, lc, ca, cc, rfl, hAk⟩ := HX.out k ln hln
   obtain ⟨_, _, _, _, c3, _, _⟩ := hAk.below hb
   have HS := Lib.hid (SliceR.src_flat rowCell eltCell (hAk.below hb).cellsR)
   have HT : Hid ((x.take (k + 1)).flatMap (·.cells) = (x.take k).flatMap (·.cells) ++ ln.cells) := Lib.hid (by rw [take_some hln, List.flatMap_append]; simp)
   have HFL : Hid (((x.take k).flatMap (·.cells)).length + ln.cells.length ≤ 100000000) := Lib.hid (by
    have h1 : ((x.take (k + 1)).flatMap (·.cells)).length = sizeD (x.take (k + 1)) := by unfold sizeD; rw [List.length_flatMap]
    rw [HT.out, List.length_append] at h1
    have h2 := sizeD_le x (k + 1)
    have h3 := HM.out
    have h3 : sizeD x ≤ 100000 := h3
    omega)
   have i0 : (0 : Int) ≤ (k : Int) := Int.natCast_nonneg _
   have i1 : (k : Int) < (x.length : Int) := by omega
   have hbs := hb.size
   clear hAk hln
   go_wp2_with (at_builtin; refine wpList_append_R _ rfl _ _ 40 40 rfl rowCell eltCell w2.heap.size _ _ (xs := (x.take k).flatMap (fun y : Lin => y.cells)) (ys := ln.cells) (news := ln.cells.flatMap encCel) rfl rfl HO.out hbs HS.out (flatCell _ _ _) HFL.out ?_; intro v' w1 hR hB' _ _; rw [← HT.out] at hR; have HR := Lib.hid hR; have HB' := Lib.hid hB'; clear hR hB')
   go_roundw
   case rel => exact ⟨k + 1, hlt, by go_num, Lib.hid HR.out, hb.trans HB'.out⟩
   case measure => simp [intOf]; omega
  ·obtain rfl : k = x.length := by omega
   have HT : Hid ((x.take x.length).flatMap (·.cells) = cellsD d a b) := Lib.hid (by rw [List.take_length]; exact HN.out)
   have HB := Lib.hid hb
   clear hb
   go_wp2_with fail
   go_ret
   have h9 := HO.out
   rw [HT.out] at h9
   exact ⟨_, rfl, SliceR.stable (rdOf_stable _) h9 (Keeps.refl _ _) (fun b h _ => Nat.le_trans HW2.out.size h), below_from HW2.out HB.out⟩
end Go.Proofs.YtpndnbjpnajaaaaGreatDoor
namespace Go.Proofs.YtpndnbjpnajaaaaGreatDoor
open Go.RowKit
open Go.Proofs.Qw
attribute [local go_sem] Oper.semAt_some
set_option maxRecDepth 100000 in
set_option maxHeartbeats 2000000 in
theorem cellsPart_any (ca : Option Addr) (cc : Nat) (cs : List Cel) (xf xt : Nat) (w w0 : World) (S : Nat → Prop) (h : CelsR false w0 S (.slice ca cs.length cc) cs) (h0 : Below w0.heap.size w0 w) (h1 : xf ≤ xt) (h2 : xt ≤ cs.length) (hs : cs.length ≤ 1000000) :
  Calls Tryz.prog 136 #[.slice ca cs.length cc, .int .i64 xf, .int .i64 xt] w (CellsSaid ((cs.drop xf).take (xt - xf)) 0 w) := by
 have hw : CelsR false w S (.slice ca cs.length cc) cs := SliceR.below (rdOf_stable _) h h0
 have HC1 := Lib.hid (cellsSpan_any _ cs xf xt w S false hw)
 have hsp : spanC cs.length xf xt = true := by unfold spanC; simp; omega
 rw [hsp] at HC1
 obtain ⟨_, hccl, hccm⟩ := hw.len
 obtain ⟨row, hrow⟩ : ∃ row, (cs.drop xf).take (xt - xf) = row := ⟨_, rfl⟩
 have hrl : row.length = xt - xf := by rw [← hrow, List.length_take, List.length_drop]; omega
 have hh : CelsR false w S (sliced ca xf xt cc 3) row := by
  rw [← hrow]
  exact hw.part (i := xf) (j := xt) (m := cc) h1 h2 (by omega) (Nat.le_refl _)
 rw [hrow]
 have HC2 := Lib.hid (cloneCell_any _ row false w w S hh (Below.refl _ _) (by omega))
 unfold sliced at HC2
 unfold maxLen at hccm
 have u0 : (0 : Int) ≤ (xf : Int) := Int.natCast_nonneg _
 have u1 : (xf : Int) ≤ (xt : Int) := by omega
 have u2 : (xt : Int) ≤ (cc : Int) := by omega
 clear h hw hsp hrow hrl hh
 by_cases hcq : cc = xf
 ·subst hcq
  have hee : xt = cc := by omega
  subst hee
  rw [if_pos rfl, Nat.sub_self] at HC2
  go_enter Tryz.func136, Tryz.ntmps136
  go_wp2_with (first | (go_at_call 200; refine HC1.out.mono ?_; rintro e w2 ⟨rfl, rfl⟩) | (go_at_call 201; refine HC2.out.mono ?_; rintro e w3 ⟨v3, rfl, hv3, hb3⟩; obtain ⟨a3, c3, rfl⟩ := hv3.slice; have HV := Lib.hid hv3; have HB := Lib.hid hb3; clear hv3 hb3))
  go_ret2
  exact ⟨_, rfl, HV.out, HB.out⟩
 ·rw [if_neg hcq] at HC2
  go_enter Tryz.func136, Tryz.ntmps136
  go_wp2_with (first | (go_at_call 200; refine HC1.out.mono ?_; rintro e w2 ⟨rfl, rfl⟩) | (go_at_call 201; refine HC2.out.mono ?_; rintro e w3 ⟨v3, rfl, hv3, hb3⟩; obtain ⟨a3, c3, rfl⟩ := hv3.slice; have HV := Lib.hid hv3; have HB := Lib.hid hb3; clear hv3 hb3))
  go_ret2
  exact ⟨_, rfl, HV.out, HB.out⟩
theorem slice_any {α : Type} {t : TypeId} {k : Nat} {R : Rd α} {own : Bool} {w : World} {S : Nat → Prop} {v : Value} {xs : List α} (h : SliceR t k R own w S v xs) : ∃ a n c, v = .slice a n c := by
 obtain ⟨a, c, e⟩ := h.slice
 exact ⟨a, _, c, e⟩
def PI (d : Doc) (dv : Value) (w : World) (Bo Z : Nat) (pre : List (RowX d)) (W : World) : Prop :=
 ∃ v, W.heap[Bo]? = some (.cells #[v] 22) ∧ DocR true W (fun b => Z ≤ b) v (pre.map fun y => partOf d y.1) ∧ W.heap[w.heap.size]? = some (.cells #[dv] 22) ∧ (v = .slice none 0 0 ∨ (pre.map fun y => partOf d y.1) ≠ []) ∧ Below w.heap.size w W ∧ Z ≤ W.heap.size
theorem pi_own {d : Doc} {dv : Value} {w : World} {Bo Z B : Nat} (hB : w.heap.size ≤ B) : OwnFrom B (PI d dv w Bo Z) := fun s X Y row ⟨v, h1, h2, h3, h4, h5, h6⟩ hg hr =>
 ⟨v, blk_own B _ _ _ s X Y row h1 hg hr, doc_own B _ v (fun s : List (RowX d) => s.map fun y => partOf d y.1) s X Y row h2 hg hr, blk_own B _ _ _ s X Y row h3 hg hr, h4, ownFrom_below (Nat.le_refl _) hB s X Y row h5 hg hr, ownFrom_size B _ s X Y row h6 hg hr⟩
set_option maxRecDepth 200000 in
set_option maxHeartbeats 4000000 in
theorem docPart_any (v : Value) (d : Doc) (a b : Ps) (w : World) (S : Nat → Prop) (h : LinsR w S v d) (he : EnvT w) (hs : Small d) (hf : Fits d) :
  Calls Tryz.prog 57 #[v, posV a, posV b] w (DocSaid (partD d a b) w) := by
 obtain ⟨W1, hW1⟩ : ∃ W1, ((w.alloc (.cells #[v] 22)).alloc (.cells #[.int .i64 a.line, .int .i64 a.col] 24)).alloc (.cells #[.int .i64 b.line, .int .i64 b.col] 24) = W1 := ⟨_, rfl⟩
 have hB : Below w.heap.size w W1 := hW1 ▸ (((Below.refl _ _).alloc (Nat.le_refl _) _).alloc (by simp) _).alloc (by simp; omega) _
 have hz : w.heap.size + 3 = W1.heap.size := by rw [← hW1]; simp
 have k0 : W1.heap[w.heap.size]? = some (.cells #[v] 22) := hW1 ▸ heap_old _ _ (heap_old _ _ (heap_new _ _ rfl))
 have k1 : W1.heap[w.heap.size + 1]? = some (.cells #[.int .i64 a.line, .int .i64 a.col] 24) := hW1 ▸ heap_old _ _ (heap_new _ _ (by simp))
 have k2 : W1.heap[w.heap.size + 1 + 1]? = some (.cells #[.int .i64 b.line, .int .i64 b.col] 24) := hW1 ▸ heap_new _ _ (by simp)
 have HC1 := Lib.hid (docSpan_any v d a b W1 S (h.below (rdLin_stable _) hB) (he.below hB) hs)
 have HB : Hid (∀ W, Below W1.heap.size W1 W → W.heap[w.heap.size]? = some (.cells #[v] 22) ∧ W.heap[w.heap.size + 1]? = some (.cells #[.int .i64 a.line, .int .i64 a.col] 24) ∧ W.heap[w.heap.size + 1 + 1]? = some (.cells #[.int .i64 b.line, .int .i64 b.col] 24)) := Lib.hid fun W hW => ⟨heap_below hW k0, heap_below hW k1, heap_below hW k2⟩
 have HP : Hid (∀ p : Ps, posV p = .agg #[.int .i64 p.line, .int .i64 p.col]) := Lib.hid fun _ => rfl
 have H1 := Lib.hid hB
 have HL := Lib.hid h
 have HF := Lib.hid hf
 have HS := Lib.hid hs
 have hlen := hf.1
 have hs1 := hB.size
 obtain ⟨p0, f0⟩ := blk k0
 obtain ⟨p1, f1⟩ := blk k1
 obtain ⟨p2, f2⟩ := blk k2
 obtain ⟨va, vc, rfl⟩ := h.slice
 clear h he hs hf k0 k1 k2 hB
 cases hsp : spanD d a b
 ·have HR : Hid (partD d a b = ([], 1)) := Lib.hid (by unfold partD; rw [hsp]; rfl)
  rw [hsp] at HC1
  clear hsp
  rw [HP.out a, HP.out b] at HC1 ⊢
  go_enter Tryz.func57, Tryz.ntmps57
  go_wp2_with (go_at_call 133; refine HC1.out.mono ?_; rintro e w2 ⟨rfl, hb2⟩)
  go_ret2
  unfold DocSaid
  rw [HR.out]
  exact ⟨_, rfl, SliceR.nil _ _ _ _ _ _, H1.out.trans (hb2.mono hs1)⟩
 obtain ⟨_, i, j, p, q, l, m, rfl, rfl, hl, hm, hp, hq, hij, hpq⟩ := span_at hsp
 have hjl := (List.getElem?_eq_some_iff.1 hm).1
 have HR : Hid (partD d ⟨i, p⟩ ⟨j, q⟩ = ((rowsTo d i p j q (j + 1)).map (partOf d), 0)) := Lib.hid (by unfold partD; rw [hsp, if_pos rfl]; rfl)
 have HOK : Hid (∀ k, i ≤ k → k ≤ j → RowOk d (rowB d i p j q k)) := Lib.hid fun k h1 h2 => rowB_ok hl hm hp hq hpq h1 h2
 rw [hsp] at HC1
 clear hsp hl hm hp hq hpq
 rw [HP.out, HP.out] at HC1 ⊢
 refine (callsIn_wide (n := 6)).1 ?_
 refine callsIn_of_wp_marks Tryz.func57 rfl trivial ?_ rfl
 simp only [Tryz.ntmps57, List.size_toArray, List.length_cons, List.length_nil, Nat.reduceAdd, Nat.reduceSub, Array.replicate_succ, Array.replicate_zero, List.push_toArray, List.append_toArray, List.nil_append, List.cons_append]
 have hwf : ∀ f, Fence.wide.fn f := fun _ => trivial
 have hwd : Fence.wide.depth = none := rfl
 gi_wp2_with (first
  | (gi_at_call 133; refine (callsIn_wide.2 HC1.out).mono ?_; rintro e w2 ⟨rfl, hb2⟩; obtain ⟨q0, g0⟩ := blk (HB.out _ hb2).1; obtain ⟨q1, g1⟩ := blk (HB.out _ hb2).2.1; obtain ⟨q2, g2⟩ := blk (HB.out _ hb2).2.2; have r0 := cell_on (q0 0); have r1 := cell_on (q1 0); have r2 := cell_on (q1 1); have r3 := cell_on (q2 0); have r4 := cell_on (q2 1))
  | (gi_at_call 134; refine (callsIn_wide.2 (between_any _ _ _ _ _ _ _ _)).mono ?_; rintro e w5 ⟨rfl, rfl⟩))
 have hx2 : Below w.heap.size w w2 := H1.out.trans (hb2.mono hs1)
 have hz2 := hb2.size
 obtain ⟨w6, hw6⟩ : ∃ w6, (((w2.alloc (.cells #[.slice none 0 0] 22)).alloc (.cells #[.slice va d.length vc] 22)).alloc (.cells #[.int .i64 i, .int .i64 p] 24)).alloc (.cells #[.int .i64 j, .int .i64 q] 24) = w6 := ⟨_, rfl⟩
 rw [hw6]
 obtain ⟨t0, t1, t2⟩ := HB.out _ hb2
 have hb26 : Below w2.heap.size w2 w6 := hw6 ▸ ((((Below.refl _ _).alloc (Nat.le_refl _) _).alloc (by simp) _).alloc (by simp; omega) _).alloc (by simp; omega) _
 have hz6 : w6.heap.size = w2.heap.size + 4 := by rw [← hw6]; simp
 have m0 : w6.heap[w2.heap.size]? = some (.cells #[.slice none 0 0] 22) := hw6 ▸ heap_old _ _ (heap_old _ _ (heap_old _ _ (heap_new _ _ rfl)))
 have n0 : w6.heap[w2.heap.size + 1]? = some (.cells #[.slice va d.length vc] 22) := hw6 ▸ heap_old _ _ (heap_old _ _ (heap_new _ _ (by simp)))
 have n1 : w6.heap[w2.heap.size + 1 + 1]? = some (.cells #[.int .i64 i, .int .i64 p] 24) := hw6 ▸ heap_old _ _ (heap_new _ _ (by simp))
 have n2 : w6.heap[w2.heap.size + 1 + 2]? = some (.cells #[.int .i64 j, .int .i64 q] 24) := hw6 ▸ heap_new _ _ (by simp)
 have hb6 : Below w.heap.size w w6 := hx2.trans (hb26.mono (by omega))
 have hPI : PI d (.slice va d.length vc) w w2.heap.size w6.heap.size [] w6 := ⟨_, m0, SliceR.nil _ _ _ _ _ _, heap_below hb26 t0, .inl rfl, hb6, Nat.le_refl _⟩
 clear hw6 q0 q1 q2 g0 g1 g2 p0 f0 p1 p2 f1 f2 t0 t1 t2 r0 r1 r2 r3 r4 hW1 m0
 have N0 := Lib.hid (And.intro n0 (And.intro n1 n2))
 clear n0 n1 n2
 refine rangeFunc_boxB rfl (by omega) (gf := 199) (lb := #[.pointer (some ⟨w2.heap.size + 1 + 1, 0, none⟩), .pointer (some ⟨w2.heap.size + 1 + 2, 0, none⟩), .pointer (some ⟨w2.heap.size + 1, 0, none⟩)]) rfl trivial (enters_of Tryz.func199 (by kernel_rfl) rfl)
  (encs := rowEnc (d := d)) (n₀ := w.heap.size) (base := w2.heap.size + 1) (top := w6.heap.size) (S := fun ys => ys.map (·.1) = rowsTo d i p j q (j + 1)) (Sp := fun _ => True) (N := 200000) (w0 := w6) ?seq (by omega) (Below.refl _ _) (fun _ => rfl)
  (PI d (.slice va d.length vc) w w2.heap.size w6.heap.size) (fun _ _ _ => False) (pi_own (by omega)) (fun _ _ _ _ _ hs _ _ => hs) hPI (fun _ _ ⟨_, _, _, _, _, _, h⟩ => h)
  (fun x => #[.int .i64 x.1.2.1, .int .i64 x.1.2.2]) 108 ?act ?assign ?body ?done ?stop
 case seq =>
  intro l J Jx W hW hJ _ hY h0
  exact between1_inB 5 l (w2.heap.size + 1) (w2.heap.size + 1 + 1) (w2.heap.size + 1 + 2) (w2.heap.size + 1) w6.heap.size (.slice va d.length vc) d i p j q S J Jx w W HL.out (hb6.trans (hW.mono hb6.size)) ⟨by omega, by omega, by omega⟩ ⟨by omega, by omega, by omega⟩ (heap_below hW N0.out.1) (heap_below hW N0.out.2.1) (heap_below hW N0.out.2.2) hij hjl HOK.out HS.out.2.1 hJ hY h0
 case assign =>
  intro l pre x W K Bx hBx hI hK
  gi_wp2
  rw [← hBx]
  exact hK
 case body =>
  intro l pre x Bx W hI hBx hbx hlt
  obtain ⟨v0, t0, hD, td, hne, hb, hz⟩ := hI
  obtain ⟨ln, hln, hft, htl⟩ := x.2
  obtain ⟨xi, exi⟩ : ∃ z, x.1.1 = z := ⟨_, rfl⟩
  obtain ⟨xf, exf⟩ : ∃ z, x.1.2.1 = z := ⟨_, rfl⟩
  obtain ⟨xt, ext⟩ : ∃ z, x.1.2.2 = z := ⟨_, rfl⟩
  have hpo := partOf_at hln
  obtain ⟨row, hrow⟩ : ∃ row, (ln.cells.drop xf).take (xt - xf) = row := ⟨_, rfl⟩
  rw [exf, ext, hrow] at hpo
  have HT : Hid ((pre ++ [x]).map (fun y => partOf d y.1) = pre.map (fun y => partOf d y.1) ++ [{ ln with cells := row }]) := Lib.hid (by rw [List.map_append, List.map_singleton, hpo])
  rw [exi] at hln
  rw [exf, ext] at hft hbx
  rw [ext] at htl
  rw [exi, exf, ext]
  clear exi exf ext hpo
  have hil := (List.getElem?_eq_some_iff.1 hln).1
  have hfl := HF.out.2 ln (List.mem_of_getElem? hln)
  obtain ⟨va', vc', hve, hvc, hvm, hx⟩ := lins_shape HL.out
  cases hve
  obtain ⟨b1, o1, la, lc, ca, cc, rfl, hAk⟩ := hx xi ln hln
  have HFM : Hid (∀ W', Below W.heap.size W W' → Calls Tryz.prog 135 #[linV ln (.slice la ln.lists.length lc) (.slice ca ln.cells.length cc)] W' fun e w' => ∃ a', e = .returned (linV ln a' (.slice none 0 0)) ∧ IntsR true w' (fun b => W'.heap.size ≤ b) a' ln.lists ∧ Below W'.heap.size W' w') := Lib.hid fun W' hW => lineFrame_any ln _ _ false false W' w S hAk.listsR hAk.cellsR (below_from hb hW) hfl
  have HCP : Hid (∀ W', Below W.heap.size W W' → Calls Tryz.prog 136 #[.slice ca ln.cells.length cc, .int .i64 xf, .int .i64 xt] W' (CellsSaid row 0 W')) := Lib.hid fun W' hW => by
   have := cellsPart_any ca cc ln.cells xf xt W' w S hAk.cellsR (below_from hb hW) hft htl hfl.2
   rwa [hrow] at this
  have hlt1 := hAk.lt
  have hbz := hb.size
  obtain ⟨hz4, c0, c1, c2, c3, _, _⟩ := hAk.below hb
  obtain ⟨s0, s0f⟩ := blk t0
  obtain ⟨sd, sdf⟩ := blk td
  obtain ⟨sx, sxf⟩ := blk hbx
  unfold maxLen at hvm
  have i0 : (0 : Int) ≤ (xi : Int) := Int.natCast_nonneg _
  have i1 : (xi : Int) < (d.length : Int) := by omega
  have hw0 : Below W.heap.size W W := Below.refl _ _
  have HA := Lib.hid (And.intro t0 (And.intro td hbx))
  have HD := Lib.hid (SliceR.bounded (rdLin_stable true) hD)
  have HNE := Lib.hid hne
  have HIN := Lib.hid (And.intro hb hz)
  have HC3 := Lib.hid c3
  have hbxl := (Array.getElem?_eq_some_iff.1 hbx).1
  clear hD hrow hln hfl hft htl hx hAk t0 td hbx hne hvc
  unfold linV at HFM
  gi_wp2_with (gi_at_call 135; refine (callsIn_wide.2 (HFM.out _ hw0)).mono ?_; rintro e w4 ⟨a', rfl, ha4, hb4⟩; obtain ⟨a4, c4, rfl⟩ := ha4.slice; have HI4 := Lib.hid (SliceR.bounded (rdOf_stable _) ha4); clear ha4)
  obtain ⟨w5, hw5⟩ : ∃ X, w4.alloc (.cells #[.int .i64 ln.quote, .slice a4 ln.lists.length c4, .int .i64 ln.kind, .slice none 0 0] 42) = X := ⟨_, rfl⟩
  rw [hw5]
  have hb45 : Below w4.heap.size w4 w5 := hw5 ▸ (Below.refl _ _).alloc (Nat.le_refl _) _
  have m5 : w5.heap[w4.heap.size]? = some (.cells #[.int .i64 ln.quote, .slice a4 ln.lists.length c4, .int .i64 ln.kind, .slice none 0 0] 42) := hw5 ▸ heap_new _ _ rfl
  have hzW4 := hb4.size
  have hb5 : Below W.heap.size W w5 := below_from hb4 hb45
  have hd5 : Below W.heap.size W w5.drew := hb5.drew
  have HC5 := Lib.hid (HCP.out w5.drew hd5)
  obtain ⟨u0, u0f⟩ := blk (heap_below hb5 HA.out.2.1)
  obtain ⟨ux, uxf⟩ := blk (heap_below hb5 HA.out.2.2)
  have u3 : w5.cell? ⟨b1, o1 + xi * 4 + 3, none⟩ = some (.slice ca ln.cells.length cc) := (hb5.cell (p := ⟨b1, o1 + xi * 4 + 3, none⟩) hz4).trans HC3.out
  have e1 : w4.heap.size ≠ w.heap.size := by omega
  have e2 : w4.heap.size ≠ b1 := by omega
  have e3 : w4.heap.size ≠ Bx := by omega
  clear s0 s0f sd sdf sx sxf c0 c1 c2 c3 hw5 HFM HCP
  refine wpIn_region_heldR (by kernel_rfl) (by kernel_rfl) (S := fun w' => w'.cell? ⟨w.heap.size, 0, none⟩ = some (.slice (some ⟨b1, o1, none⟩) d.length vc) ∧ w'.cell? ⟨b1, o1 + xi * 4 + 3, none⟩ = some (.slice ca ln.cells.length cc) ∧ w'.cell? ⟨Bx, 0, none⟩ = some (.int .i64 xf) ∧ w'.cell? ⟨Bx, 1, none⟩ = some (.int .i64 xt)) ⟨u0 0, u3, ux 0, ux 1⟩ (fun R hR hHeld => ?_)
  refine wpAnyH_take (i := 0) (v := ?_) (by simp only [qA, qZ]; rfl) (by kernel_rfl) (by kernel_rfl) (by kernel_rfl) (fun _ _ _ h => h) (Or.inl ⟨by rfl, ?_⟩) (by assumption) ?_
  rotate_left 1
  ·intro w hSw; (try dsimp only at hSw); go_simp; (first | done | with_reducible rfl)
  try simp only [Act.put, qI, qX, qY]
  refine wpAnyH_take (i := 1) (v := ?_) (by simp only [qA, qS, qZ]; rfl) (by kernel_rfl) (by kernel_rfl) (by kernel_rfl) (fun _ _ _ h => h) (Or.inl ⟨by rfl, ?_⟩) (by assumption) ?_
  rotate_left 1
  ·intro w hSw; (try dsimp only at hSw); go_simp; (first | done | with_reducible rfl)
  try simp only [Act.put, qI, qX, qY]
  refine wpAnyH_take (i := 2) (v := ?_) (by simp only [qA, qS, qZ]; rfl) (by kernel_rfl) (by kernel_rfl) (by kernel_rfl) (fun _ _ _ h => h) (Or.inl ⟨by rfl, ?_⟩) (by assumption) ?_
  rotate_left 1
  ·intro w hSw; (try dsimp only at hSw); go_simp; (first | done | with_reducible rfl)
  try simp only [Act.put, qI, qX, qY]
  refine wpAnyH_take (i := 3) (v := ?_) (by simp only [qA, qS, qZ]; rfl) (by kernel_rfl) (by kernel_rfl) (by kernel_rfl) (fun _ _ _ h => h) (Or.inl ⟨by rfl, ?_⟩) (by assumption) ?_
  rotate_left 1
  ·intro w hSw; (try dsimp only at hSw); go_simp; (first | done | with_reducible rfl)
  try simp only [Act.put, qI, qX, qY]
  refine wpAnyH_take (i := 4) (v := ?_) (by simp only [qA, qS, qZ]; rfl) (by kernel_rfl) (by kernel_rfl) (by kernel_rfl) (fun _ _ _ h => h) (Or.inl ⟨by rfl, ?_⟩) (by assumption) ?_
  rotate_left 1
  ·intro w hSw; (try dsimp only at hSw); go_simp; (first | done | with_reducible rfl)
  try simp only [Act.put, qI, qX, qY]
  refine wpAnyH_take (i := 5) (v := ?_) (by simp only [qA, qS, qZ]; rfl) (by kernel_rfl) (by kernel_rfl) (by kernel_rfl) (fun _ _ _ h => h) (Or.inl ⟨by rfl, ?_⟩) (by assumption) ?_
  rotate_left 1
  ·intro w hSw; (try dsimp only at hSw); go_simp; (first | done | with_reducible rfl)
  try simp only [Act.put, qI, qX, qY]
  refine wpAnyH_take (i := 6) (v := ?_) (by simp only [qA, qS, qZ]; rfl) (by kernel_rfl) (by kernel_rfl) (by kernel_rfl) (fun _ _ _ h => h) (Or.inl ⟨by rfl, ?_⟩) (by assumption) ?_
  rotate_left 1
  ·intro w hSw; (try dsimp only at hSw); go_simp; (first | done | with_reducible rfl)
  try simp only [Act.put, qI, qX, qY]
  refine wpAnyH_take (i := 7) (v := ?_) (by simp only [qA, qS, qZ]; rfl) (by kernel_rfl) (by kernel_rfl) (by kernel_rfl) (fun _ _ _ h => h) (Or.inl ⟨by rfl, ?_⟩) (by assumption) ?_
  rotate_left 1
  ·intro w hSw; (try dsimp only at hSw); go_simp; (first | done | with_reducible rfl)
  try simp only [Act.put, qI, qX, qY]
  refine wpAnyH_take (i := 8) (v := ?_) (by simp only [qA, qS, qZ]; rfl) (by kernel_rfl) (by kernel_rfl) (by kernel_rfl) (fun _ _ _ h => h) (Or.inl ⟨by rfl, ?_⟩) (by assumption) ?_
  rotate_left 1
  ·intro w hSw; (try dsimp only at hSw); go_simp; (first | done | with_reducible rfl)
  try simp only [Act.put, qI, qX, qY]
  refine wpAnyH_ready (rs := [9]) (by kernel_rfl) (by simp) ?_
  refine AllReadyH.cons (by simp only [qA, qS, qZ]; rfl) (fun K hK => ?_) AllReadyH.nil
  go_simp
  refine HC5.out.mono ?_
  intro e w6' hsaid
  obtain ⟨v6, rfl, hv6, hb6'⟩ := hsaid
  have hb56 : Below w5.heap.size w5 w6' := ((Below.refl _ _).drew).trans hb6'
  obtain ⟨a6, c6, rfl⟩ := hv6.slice
  have HV6 : Hid (CelsR true w6' (fun b => w5.heap.size ≤ b) (.slice a6 row.length c6) row) := Lib.hid (SliceR.stable (rdOf_stable _) hv6 (Keeps.refl _ _) (fun b hb' _ => hb'))
  have hbW6 : Below W.heap.size W w6' := below_from hb5 hb56
  have hb46 : Below w4.heap.size w4 w6' := below_from hb45 hb56
  have m6 := heap_below hb56 m5
  obtain ⟨y0, y0f⟩ := blk (heap_below hbW6 HA.out.2.1)
  obtain ⟨yx, yxf⟩ := blk (heap_below hbW6 HA.out.2.2)
  obtain ⟨r6, s6⟩ := blk m6
  have y3 : w6'.cell? ⟨b1, o1 + xi * 4 + 3, none⟩ = some (.slice ca ln.cells.length cc) := (hbW6.cell (p := ⟨b1, o1 + xi * 4 + 3, none⟩) hz4).trans HC3.out
  have hS6 : w6'.cell? ⟨w.heap.size, 0, none⟩ = some (.slice (some ⟨b1, o1, none⟩) d.length vc) ∧ w6'.cell? ⟨b1, o1 + xi * 4 + 3, none⟩ = some (.slice ca ln.cells.length cc) ∧ w6'.cell? ⟨Bx, 0, none⟩ = some (.int .i64 xf) ∧ w6'.cell? ⟨Bx, 1, none⟩ = some (.int .i64 xt) := ⟨y0 0, y3, yx 0, yx 1⟩
  clear hv6 hb6' u0 u0f ux uxf u3
  refine hK.out _ _ hS6 (fun hHeld => ?_)
  clear hK K
  try simp only [Act.put, qI, qX, qY]
  refine wpAnyH_take (i := 10) (v := ?_) (by simp only [qA, qS, qZ]; rfl) (by kernel_rfl) (by kernel_rfl) (by kernel_rfl) (fun _ _ _ h => h) (Or.inl ⟨by rfl, ?_⟩) (by assumption) ?_
  rotate_left 1
  ·intro w hSw; (try dsimp only at hSw); go_simp; (first | done | with_reducible rfl)
  try simp only [Act.put, qI, qX, qY]
  refine wpAnyH_take (i := 11) (v := ?_) (by simp only [qA, qS, qZ]; rfl) (by kernel_rfl) (by kernel_rfl) (by kernel_rfl) (fun _ _ _ h => h) (Or.inl ⟨by rfl, ?_⟩) (by assumption) ?_
  rotate_left 1
  ·intro w hSw; (try dsimp only at hSw); go_simp; (first | done | with_reducible rfl)
  try simp only [Act.put, qI, qX, qY]
  refine wpAnyH_take (i := 12) (v := ?_) (by simp only [qA, qS, qZ]; rfl) (by kernel_rfl) (by kernel_rfl) (by kernel_rfl) (fun _ _ _ h => h) (Or.inl ⟨by rfl, ?_⟩) (by assumption) ?_
  rotate_left 1
  ·intro w hSw; (try dsimp only at hSw); go_simp; (first | done | with_reducible rfl)
  try simp only [Act.put, qI, qX, qY]
  refine wpAnyH_take (i := 13) (v := ?_) (by simp only [qA, qS, qZ]; rfl) (by kernel_rfl) (by kernel_rfl) (by kernel_rfl) (fun _ _ _ h => h) (Or.inl ⟨by rfl, ?_⟩) (by assumption) ?_
  rotate_left 1
  ·intro w hSw; (try dsimp only at hSw); go_simp; (first | done | with_reducible rfl)
  try simp only [Act.put, qI, qX, qY]
  refine wpAnyH_ready (rs := [14]) (by kernel_rfl) (by simp) ?_
  refine AllReadyH.cons (by simp only [qA, qS, qZ]; rfl) (fun K hK => ?_) AllReadyH.nil
  go_simp
  have hS7 : (w6'.setCell ⟨w4.heap.size, 3, none⟩ (.slice a6 row.length c6)).cell? ⟨w.heap.size, 0, none⟩ = some (.slice (some ⟨b1, o1, none⟩) d.length vc) ∧ (w6'.setCell ⟨w4.heap.size, 3, none⟩ (.slice a6 row.length c6)).cell? ⟨b1, o1 + xi * 4 + 3, none⟩ = some (.slice ca ln.cells.length cc) ∧ (w6'.setCell ⟨w4.heap.size, 3, none⟩ (.slice a6 row.length c6)).cell? ⟨Bx, 0, none⟩ = some (.int .i64 xf) ∧ (w6'.setCell ⟨w4.heap.size, 3, none⟩ (.slice a6 row.length c6)).cell? ⟨Bx, 1, none⟩ = some (.int .i64 xt) :=
   ⟨(setCell_block e1).trans hS6.1, (setCell_block e2).trans hS6.2.1, (setCell_block e3).trans hS6.2.2.1, (setCell_block e3).trans hS6.2.2.2⟩
  refine hK.out _ _ hS7 (fun _ => ?_)
  refine wpAnyH_done (by kernel_rfl) ?_ _
  refine hR.out _ _ ?_
  clear hK K hS6 hS7 y0 y0f yx yxf y3
  have hz45 := hb45.size
  have hz56 := hb56.size
  obtain ⟨z0, z0f⟩ := blk (heap_below hbW6 HA.out.1)
  have e4 : ¬ w4.heap.size = w2.heap.size := by omega
  have e5 : w4.heap.size ≠ w2.heap.size := e4
  have hw2Z : w2.heap.size < w6.heap.size := by omega
  have hb7 : ∀ u ob, Below W.heap.size W ((w6'.setCell ⟨w4.heap.size, 3, none⟩ u).alloc ob) := fun u ob => (hbW6.setCell (by show W.heap.size ≤ w4.heap.size; omega) _).alloc (by simp; omega) _
  have HB7 := Lib.hid hb7
  have HD7 : Hid (∀ u ob, DocR true ((w6'.setCell ⟨w4.heap.size, 3, none⟩ u).alloc ob) (fun b => w6.heap.size ≤ b) v0 (pre.map fun y => partOf d y.1)) := Lib.hid fun u ob => HD.out.stable (rdLin_stable true) (.all (hb7 u ob)) (fun _ h _ => h.1)
  have HM7 : Hid (∀ u ob, ((w6'.setCell ⟨w4.heap.size, 3, none⟩ u).alloc ob).heap[w2.heap.size]? = some (.cells #[v0] 22)) := Lib.hid fun u ob => heap_below (hb7 u ob) HA.out.1
  have hzz7 : ∀ u ob, w6.heap.size ≤ ((w6'.setCell ⟨w4.heap.size, 3, none⟩ u).alloc ob).heap.size := fun u ob => Nat.le_trans HIN.out.2 (hb7 u ob).size
  have HZ7 := Lib.hid hzz7
  have hl7 : (pre.map fun y => partOf d y.1).length + 1 ≤ 100000000 := by rw [List.length_map]; omega
  have HN7 : Hid (∀ ob, NewsR 4 (rdLin true) ((w6'.setCell ⟨w4.heap.size, 3, none⟩ (.slice a6 row.length c6)).alloc ob) (fun b => w6.heap.size ≤ b) [.int .i64 ln.quote, .slice a4 ln.lists.length c4, .int .i64 ln.kind, .slice a6 row.length c6] [{ ln with cells := row }]) := Lib.hid fun ob =>
   NewsR.one rfl ⟨_, _, rfl, HI4.out.stable (rdOf_stable _) (((Keeps.all hb46).set (fun hh => (Nat.lt_irrefl _) hh.2) _).alloc _) (fun b h _ => Nat.le_trans HIN.out.2 h.1), HV6.out.stable (rdOf_stable _) (((Keeps.refl _ _).set (fun hh => by have hh : w5.heap.size ≤ w4.heap.size := hh; have := (Array.getElem?_eq_some_iff.1 m5).1; omega) _).alloc _) (fun b h _ => by have h : w5.heap.size ≤ b := h; have := HIN.out.2; omega)⟩
  clear hb7 hzz7
  gi_wp2_with (gi_at_builtin; go_must (refine wpListIn_append_R _ rfl _ _ 22 22 rfl rowLine eltLine w6.heap.size v0 _ (xs := pre.map (fun y : RowX d => partOf d y.1)) (ys := [{ ln with cells := row }]) (news := [.int .i64 ln.quote, .slice a4 ln.lists.length c4, .int .i64 ln.kind, .slice a6 row.length c6]) rfl rfl (HD7.out _ _) (HZ7.out _ _) (src_at rowLine (w6'.setCell ⟨w4.heap.size, 3, none⟩ (.slice a6 row.length c6)) _ rfl (oneV_line _ _ _ _ _ _ _) 1 (by simp)) (HN7.out _) hl7 ?_); intro v' w8 hR8 hB8 hG8 _; rw [← HT.out] at hR8; obtain ⟨a8, n8, c8, hv8⟩ := slice_any hR8; subst hv8; have HR8 := Lib.hid hR8; have HB8 := Lib.hid hB8; have HG8 := Lib.hid hG8; have m8 := (hB8.block _ hw2Z).trans (HM7.out _ _); obtain ⟨r8, s8⟩ := blk m8; clear hR8 hB8 hG8)
  have h1 := HD7.out (.slice a6 row.length c6) (.cells #[.int .i64 ln.quote, .slice a4 ln.lists.length c4, .int .i64 ln.kind, .slice a6 row.length c6] 42)
  have hb7 := HB7.out (.slice a6 row.length c6) (.cells #[.int .i64 ln.quote, .slice a4 ln.lists.length c4, .int .i64 ln.kind, .slice a6 row.length c6] 42)
  have hwW := HIN.out.1.size
  have hz8 := HB8.out.size
  have hz7 := HZ7.out (.slice a6 row.length c6) (.cells #[.int .i64 ln.quote, .slice a4 ln.lists.length c4, .int .i64 ln.kind, .slice a6 row.length c6] 42)
  have hd8 := (HB8.out.block w.heap.size (by omega)).trans (heap_below hb7 HA.out.2.1)
  refine ⟨((keeps_below hb7).from _).trans (((append_keeps h1 HNE.out HG8.out).from _).trans ((KeepsOthers.setCell _ _ _).from _)), (Kb.of_below hwW hb7).t ((Kb.of_top hb6.size (Nat.le_refl _) HB8.out).t (Kb.setCell _ hx2.size (Or.inl (Nat.lt_succ_self _)) _)), _, ?_, SliceR.stable (rdLin_stable true) HR8.out ((Keeps.refl _ _).set (fun hh => by have hh : w6.heap.size ≤ w2.heap.size := hh; omega) _) (fun _ h _ => h), ?_, .inr (by rw [HT.out]; simp), ?_, ?_⟩
  ·rw [heap_set, if_pos rfl, m8]; rfl
  ·rw [heap_set, if_neg (by omega)]; exact hd8
  ·exact ((below_from HIN.out.1 hb7).trans (HB8.out.mono hb6.size)).setCell (by show w.heap.size ≤ w2.heap.size; exact hx2.size) _
  ·simp only [World.size_setCell]; omega
 case done =>
  rintro D ys W hD hys ⟨v9, t0, hDoc, td, hne, hb, hz⟩ hK
  obtain ⟨s0, s0f⟩ := blk t0
  rw [show (ys.map fun y => partOf d y.1) = (rowsTo d i p j q (j + 1)).map (partOf d) by rw [← hys, List.map_map]; rfl] at hDoc
  obtain ⟨va9, c9, rfl⟩ := hDoc.slice
  have HDOC := Lib.hid hDoc
  have HB9 := Lib.hid hb
  have HK9 := Lib.hid hK
  clear hDoc hb hK td hne
  generalize ((rowsTo d i p j q (j + 1)).map (partOf d)).length = n9 at *
  gi_wp2_with fail
  refine ⟨by simp, .inl ⟨_, _, rfl, run_takeDeferred HK9.out, ?_⟩⟩
  refine ⟨.tuple #[.slice va9 n9 c9, .int .i64 0], by simp [results, Tryz.results57, go_sem], ?_⟩
  unfold DocSaid
  rw [HR.out]
  exact ⟨_, rfl, SliceR.stable (rdLin_stable true) ((doc_own (β := Unit) D _ _ (fun _ => (rowsTo d i p j q (j + 1)).map (partOf d))).putObj (s := ()) _ HDOC.out (Nat.le_refl _) HK9.out rfl) (Keeps.refl _ _) (fun b h _ => Nat.le_trans hb6.size h), HB9.out.trans (belowK_b (w := w) (Nat.le_refl _) W D _ _ (by omega) HK9.out rfl rfl)⟩
 case stop =>
  rintro D c pre W _ _ h _
  exact h.elim
end Go.Proofs.YtpndnbjpnajaaaaGreatDoor
