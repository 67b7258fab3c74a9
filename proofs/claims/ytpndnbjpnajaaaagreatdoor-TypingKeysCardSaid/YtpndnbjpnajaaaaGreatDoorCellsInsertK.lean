/- A keeper for loops over a function that keeps memory of its own: whatever lies from 'base' on stays, but for the row that the body appends to. -/
import Derived.Test.YtpndnbjpnajaaaaGreatDoorDocPartK
import Derived.Deep.Cut
import Derived.Deep.CutRange
import Derived.Test.YtpndnbjpnajaaaaGreatDoorOwnK
import Derived.Test.YtpndnbjpnajaaaaGreatDoorReplaceK
import Derived.Test.YtpndnbjpnajaaaaGreatDoorSameK
set_option linter.unusedVariables false
set_option linter.unusedSimpArgs false
namespace Go.Proofs.YtpndnbjpnajaaaaGreatDoor
open Go.RowKit
open Go.Proofs.Qw
attribute [local go_sem] Oper.semAt_some
def ownAt (Bs : Nat) (W : World) : Option Nat := (W.cell? ⟨Bs, 0, none⟩).bind Value.ownBlock
structure Kd (n₀ base Bs : Nat) (W W' : World) : Prop where
 below : Below n₀ W W'
 cells : ∀ k o, base ≤ k → W.heap[k]? = some o → o.isCells = true → ownAt Bs W ≠ some k → W'.heap[k]? = some o
 own : ownAt Bs W' = ownAt Bs W ∨ ∃ j, ownAt Bs W' = some j ∧ W.heap.size ≤ j
theorem Kd.t {n₀ base Bs : Nat} {A B C : World} (h : Kd n₀ base Bs A B) (k : Kd n₀ base Bs B C) : Kd n₀ base Bs A C := by
 refine ⟨h.below.trans k.below, fun i o hi ho hc hn => k.cells i o hi (h.cells i o hi ho hc hn) hc ?_, ?_⟩
 ·rcases h.own with e | ⟨j, e, hj⟩
  ·rw [e]; exact hn
  ·rw [e]
   intro e2
   cases e2
   have := (Array.getElem?_eq_some_iff.1 ho).1
   omega
 ·rcases k.own with e | ⟨j, e, hj⟩
  ·rw [e]; exact h.own
  ·exact .inr ⟨j, e, Nat.le_trans h.below.size hj⟩
theorem Kd.of_below {n₀ base Bs : Nat} {W W' : World} (hn : n₀ ≤ W.heap.size) (hs : Bs < W.heap.size) (hb : Below W.heap.size W W') : Kd n₀ base Bs W W' :=
 ⟨hb.mono hn, fun k _ _ hk _ _ => (hb.block k (Array.getElem?_eq_some_iff.1 hk).1).trans hk, .inl (by unfold ownAt; rw [hb.cell (p := ⟨Bs, 0, none⟩) hs])⟩
theorem Kd.b {n₀ base Bs : Nat} {w : World} (hn : n₀ ≤ w.heap.size) (hs : Bs < w.heap.size) (W : World) (l : Nat) (o o' : Obj) (hl : w.heap.size ≤ l) (h : W.heap[l]? = some o) (hc : o.isCells = false) (hw : o.isWalk = false) : Kd n₀ base Bs W (W.putObj l o') :=
 ⟨belowK_b hn W l o o' hl h hc hw, fun k u _ hk hu _ => by
  rw [World.putObj_heap_other (fun e => by subst e; rw [h] at hk; cases hk; rw [hc] at hu; cases hu)]; exact hk, .inl (by
  unfold ownAt
  rw [World.cell?_of_block (World.putObj_heap_other (by show Bs ≠ l; omega))])⟩
theorem Kd.setCell {n₀ base Bs : Nat} (W : World) {B o : Nat} (h1 : n₀ ≤ B) (h2 : B < base) (h3 : B ≠ Bs) (v : Value) : Kd n₀ base Bs W (W.setCell ⟨B, o, none⟩ v) :=
 ⟨(Below.refl _ _).setCell h1 _, fun k u hk h _ _ => by rw [Below.heap_setCell _ _ _ _ (by simp; omega)]; exact h, .inl (by
  unfold ownAt
  rw [World.cell?_of_block (Below.heap_setCell _ _ _ _ (by simp; omega))])⟩
theorem Kd.append {n₀ base Bs : Nat} {w w' : World} {v v' : Value} (h : w.heap[Bs]? = some (.cells #[v] 40)) (hne : v.ownBlock ≠ some Bs) (hg : w.grownBy w' v.ownBlock) (hb : Below n₀ w w') (hv : v'.ownBlock = v.ownBlock ∨ v'.ownBlock = some w.heap.size) (h1 : n₀ ≤ Bs) (h2 : Bs < base) : Kd n₀ base Bs w (w'.setCell ⟨Bs, 0, none⟩ v') := by
 have hlt := (Array.getElem?_eq_some_iff.1 h).1
 have h' : w'.heap[Bs]? = some (.cells #[v] 40) := (hg.block Bs hlt (fun e => hne e.symm)).trans h
 have o1 : ownAt Bs w = v.ownBlock := by unfold ownAt; rw [cell_of_heap h]; rfl
 have o2 : ownAt Bs (w'.setCell ⟨Bs, 0, none⟩ v') = v'.ownBlock := by unfold ownAt; rw [cell_of_heap (setCell_heap h' v')]; rfl
 refine ⟨hb.setCell h1 _, fun k o hk ho _ hn => ?_, ?_⟩
 ·rw [Below.heap_setCell _ _ _ _ (by simp; omega)]
  exact (hg.block k (Array.getElem?_eq_some_iff.1 ho).1 (fun e => hn (o1.trans e.symm))).trans ho
 ·rw [o1, o2]
  rcases hv with e | e
  ·exact .inl e
  ·exact .inr ⟨_, e, Nat.le_refl _⟩
theorem cell_cells {w : World} {b o : Nat} {u : Value} (h : w.cell? ⟨b, o, none⟩ = some u) : ∃ ob, w.heap[b]? = some ob ∧ ob.isCells = true := by
 unfold World.cell? at h
 split at h
 ·rename_i c t f e
  exact ⟨_, e, rfl⟩
 ·cases h
structure KC (W2 : World) (Z Bs n₀ : Nat) (w0 wr : World) : Prop where
 cell : ∀ b o u, Z ≤ b → b < W2.heap.size → W2.cell? ⟨b, o, none⟩ = some u → wr.cell? ⟨b, o, none⟩ = some u
 own : ∀ k, ownAt Bs wr = some k → W2.heap.size ≤ k
 size : W2.heap.size ≤ wr.heap.size
 below : Below n₀ w0 wr
theorem KC.go {W2 : World} {Z Bs n₀ base : Nat} {w0 wr wr' : World} (h : KC W2 Z Bs n₀ w0 wr) (hz : base ≤ Z) (k : Kd n₀ base Bs wr wr') : KC W2 Z Bs n₀ w0 wr' := by
 refine ⟨fun b o u h1 h2 h3 => ?_, fun j hj => ?_, Nat.le_trans h.size k.below.size, h.below.trans k.below⟩
 ·have hc := h.cell b o u h1 h2 h3
  obtain ⟨ob, e1, e2⟩ := cell_cells hc
  have e3 := k.cells b ob (Nat.le_trans hz h1) e1 e2 (fun e => by have := h.own b e; omega)
  rw [World.cell?_of_block (w := wr) (e3.trans e1.symm)]
  exact hc
 ·rcases k.own with e | ⟨i, e, hi⟩
  ·exact h.own j (e.symm.trans hj)
  ·rw [e] at hj
   cases hj
   exact Nat.le_trans h.size hi
end Go.Proofs.YtpndnbjpnajaaaaGreatDoor
namespace Go.Proofs.Qw
open Go.RowKit Go.Proofs.YtpndnbjpnajaaaaGreatDoor
def aroundF (l : List Cel) (k : Nat) : Int × List UInt8 :=
 (if 0 < k then (l.getD (k - 1) default).bits else if k < l.length then (l.getD k default).bits else 0,
  if 0 < k ∧ k < l.length ∧ (l.getD (k - 1) default).href = (l.getD k default).href then (l.getD (k - 1) default).href else [])
def aheadC (l : List Cel) : Nat → Option Cel
 | 0 => none
 | k + 1 => l[k]?
theorem aroundF_eq (l : List Cel) (k : Nat) (hk : k ≤ l.length) : aroundF l k = (match aheadC l k, l[k]? with | some a, _ => a.bits | none, some b => b.bits | none, none => 0, match aheadC l k, l[k]? with | some a, some b => if a.href = b.href then a.href else [] | _, _ => []) := by
 unfold aroundF
 cases k with
 | zero =>
  by_cases h : 0 < l.length
  ·obtain ⟨x, hx, _⟩ := getOf l 0 h
   simp [aheadC, hx, h, List.getD]
  ·have : l[0]? = none := List.getElem?_eq_none (by omega)
   simp [aheadC, this, h]
 | succ j =>
  obtain ⟨a, ha, _⟩ := getOf l j (by omega)
  by_cases h : j + 1 < l.length
  ·obtain ⟨b, hb, _⟩ := getOf l (j + 1) h
   simp [aheadC, ha, hb, h, List.getD]
  ·have : l[j + 1]? = none := List.getElem?_eq_none (by omega)
   simp [aheadC, ha, this, h, List.getD]
end Go.Proofs.Qw
namespace Go.Proofs.YtpndnbjpnajaaaaGreatDoor
open Go.RowKit
open Go.Proofs.Qw
def PtrOf (w : World) (p : Option Addr) : Option Cel → Prop
 | none => p = none
 | some c => ∃ b o, p = some ⟨b, o, none⟩ ∧ b < w.heap.size ∧ w.cell? ⟨b, o, none⟩ = some (.int .i32 c.r) ∧ w.cell? ⟨b, o + 1, none⟩ = some (.int .i64 c.bits) ∧ w.cell? ⟨b, o + 2, none⟩ = some (.string ⟨c.href.toArray⟩)
set_option maxRecDepth 100000 in
set_option maxHeartbeats 1000000 in
theorem sides_any (v : Value) (l : List Cel) (k : Nat) (w : World) (S : Nat → Prop) (h : CelsR false w S v l) (hk : k ≤ l.length) :
  Calls Tryz.prog 147 #[v, .int .i64 k] w fun e w' => ∃ pa pb, e = .returned (.tuple #[.int .i64 k, .pointer pa, .pointer pb]) ∧ w' = w ∧ PtrOf w pa (aheadC l k) ∧ PtrOf w pb l[k]? := by
 obtain ⟨a, c, rfl, hc, hm, hx⟩ := cels_shape h
 have e1 : max (k : Int) 0 = k := by omega
 have e2 : min (k : Int) (l.length : Int) = k := by omega
 unfold maxLen at hm
 have HX := Lib.hid hx
 clear hx h
 cases k with
 | zero =>
  by_cases hn : 0 < l.length
  ·obtain ⟨x, hx0, _⟩ := getOf l 0 hn
   obtain ⟨b, o, rfl, hz, c0, c1, c2⟩ := HX.out 0 x hx0
   have HB : Hid (PtrOf w (some ⟨b, o, none⟩) l[0]?) := Lib.hid (by rw [hx0]; exact ⟨b, o, rfl, hz, by simpa using c0, by simpa using c1, by simpa using c2⟩)
   clear hx0 c0 c1 c2 hz
   go_enter Tryz.func147, Tryz.ntmps147
   go_wp2_with fail
   go_ret3
   exact ⟨none, _, rfl, rfl, rfl, HB.out⟩
  ·have hn : l.length = 0 := by omega
   have HB : Hid (PtrOf w none l[0]?) := Lib.hid (by rw [List.getElem?_eq_none (by omega)]; exact rfl)
   go_enter Tryz.func147, Tryz.ntmps147
   go_wp2_with fail
   go_ret3
   exact ⟨none, none, rfl, rfl, rfl, HB.out⟩
 | succ j =>
  obtain ⟨x, hx0, _⟩ := getOf l j (by omega)
  obtain ⟨b, o, rfl, hz, c0, c1, c2⟩ := HX.out j x hx0
  have HA : Hid (PtrOf w (some ⟨b, o + j * 3, none⟩) (aheadC l (j + 1))) := Lib.hid (by show PtrOf _ _ l[j]?; rw [hx0]; exact ⟨b, o + j * 3, rfl, hz, c0, c1, c2⟩)
  have e1' : max ((j : Int) + 1) 0 = (j : Int) + 1 := by omega
  have e2' : min ((j : Int) + 1) (l.length : Int) = (j : Int) + 1 := by omega
  have e4 : ((j : Int) + 1).toNat = j + 1 := by omega
  clear e1 e2
  clear hx0 c0 c1 c2
  by_cases hn : j + 1 < l.length
  ·obtain ⟨y, hy0, _⟩ := getOf l (j + 1) hn
   obtain ⟨b', o', hbe, hz', c0, c1, c2⟩ := HX.out (j + 1) y hy0
   cases hbe
   have HB : Hid (PtrOf w (some ⟨b, o + (j + 1) * 3, none⟩) l[j + 1]?) := Lib.hid (by rw [hy0]; exact ⟨b, o + (j + 1) * 3, rfl, hz', c0, c1, c2⟩)
   clear hy0 c0 c1 c2 hz' hz
   go_enter Tryz.func147, Tryz.ntmps147
   go_wp2_with fail
   go_ret3
   exact ⟨_, _, rfl, rfl, HA.out, HB.out⟩
  ·have HB : Hid (PtrOf w none l[j + 1]?) := Lib.hid (by rw [List.getElem?_eq_none (by omega)]; exact rfl)
   clear hz
   go_enter Tryz.func147, Tryz.ntmps147
   go_wp2_with fail
   go_ret3
   exact ⟨_, none, rfl, rfl, HA.out, HB.out⟩
set_option maxRecDepth 100000 in
set_option maxHeartbeats 2000000 in
theorem around_any (v : Value) (l : List Cel) (k : Nat) (w : World) (S : Nat → Prop) (h : CelsR false w S v l) (hk : k ≤ l.length) :
  Calls Tryz.prog 76 #[v, .int .i64 k] w fun e w' => e = .returned (.tuple #[.int .i64 (aroundF l k).1, .string ⟨(aroundF l k).2.toArray⟩]) ∧ Below w.heap.size w w' := by
 have HS := Lib.hid (sides_any v l k w S h hk)
 have HR := Lib.hid (aroundF_eq l k hk)
 obtain ⟨r1, r2, hr⟩ : ∃ r1 r2, aroundF l k = (r1, r2) := ⟨_, _, rfl⟩
 rw [hr] at HR ⊢
 clear hr hk
 obtain ⟨a, c, rfl⟩ := h.slice
 clear h
 have hw0 : Below w.heap.size w w := Below.refl _ _
 generalize aheadC l k = X at *
 generalize l[k]? = Y at *
 cases X with
 | none =>
  cases Y with
  | none =>
   go_enter Tryz.func76, Tryz.ntmps76
   go_wp2_with (go_at_call 147; refine HS.out.mono ?_; intro e w1 hs; obtain ⟨pa, pb, rfl, rfl, hpa, hpb⟩ := hs; obtain rfl : pa = none := hpa; obtain rfl : pb = none := hpb)
   go_region
   go_wp2_with fail
   go_ret2
   cases HR.out
   exact ⟨rfl, (by (repeat' (first | (with_reducible exact Below.refl _ _) | (with_reducible assumption) | (with_reducible refine Below.alloc ?_ ?_ _) | (with_reducible refine Below.drew ?_) | (with_reducible refine drewN_below ?_) | (with_reducible refine Below.setCell ?_ ?_ _) | go_size)))⟩
  | some y =>
   go_enter Tryz.func76, Tryz.ntmps76
   go_wp2_with (go_at_call 147; refine HS.out.mono ?_; intro e w1 hs; obtain ⟨pa, pb, rfl, rfl, hpa, hpb⟩ := hs; obtain rfl : pa = none := hpa; obtain ⟨b, o, rfl, hz, c0, c1, c2⟩ := hpb)
   go_region
   go_wp2_with fail
   go_ret2
   cases HR.out
   exact ⟨rfl, (by (repeat' (first | (with_reducible exact Below.refl _ _) | (with_reducible assumption) | (with_reducible refine Below.alloc ?_ ?_ _) | (with_reducible refine Below.drew ?_) | (with_reducible refine drewN_below ?_) | (with_reducible refine Below.setCell ?_ ?_ _) | go_size)))⟩
 | some x =>
  cases Y with
  | none =>
   go_enter Tryz.func76, Tryz.ntmps76
   go_wp2_with (go_at_call 147; refine HS.out.mono ?_; intro e w1 hs; obtain ⟨pa, pb, rfl, rfl, hpa, hpb⟩ := hs; obtain ⟨b, o, rfl, hz, c0, c1, c2⟩ := hpa; obtain rfl : pb = none := hpb)
   go_region
   go_wp2_with fail
   go_ret2
   cases HR.out
   exact ⟨rfl, (by (repeat' (first | (with_reducible exact Below.refl _ _) | (with_reducible assumption) | (with_reducible refine Below.alloc ?_ ?_ _) | (with_reducible refine Below.drew ?_) | (with_reducible refine drewN_below ?_) | (with_reducible refine Below.setCell ?_ ?_ _) | go_size)))⟩
  | some y =>
   by_cases hxy : x.href = y.href
   ·have HQ : Hid ((r1, r2) = (x.bits, x.href)) := Lib.hid (HR.out.trans (by simp [hxy]))
    have hq : (x.href == y.href) = true := by simpa using hxy
    clear hxy HR
    go_enter Tryz.func76, Tryz.ntmps76
    go_wp2_with (go_at_call 147; refine HS.out.mono ?_; intro e w1 hs; obtain ⟨pa, pb, rfl, rfl, hpa, hpb⟩ := hs; obtain ⟨b, o, rfl, hz, c0, c1, c2⟩ := hpa; obtain ⟨b', o', rfl, hz', c0', c1', c2'⟩ := hpb)
    go_region
    go_wp2_with fail
    go_ret2
    cases HQ.out
    exact ⟨rfl, (by (repeat' (first | (with_reducible exact Below.refl _ _) | (with_reducible assumption) | (with_reducible refine Below.alloc ?_ ?_ _) | (with_reducible refine Below.drew ?_) | (with_reducible refine drewN_below ?_) | (with_reducible refine Below.setCell ?_ ?_ _) | go_size)))⟩
   ·have HQ : Hid ((r1, r2) = (x.bits, [])) := Lib.hid (HR.out.trans (by simp [hxy]))
    have hq : (x.href == y.href) = false := by simpa using hxy
    clear hxy HR
    go_enter Tryz.func76, Tryz.ntmps76
    go_wp2_with (go_at_call 147; refine HS.out.mono ?_; intro e w1 hs; obtain ⟨pa, pb, rfl, rfl, hpa, hpb⟩ := hs; obtain ⟨b, o, rfl, hz, c0, c1, c2⟩ := hpa; obtain ⟨b', o', rfl, hz', c0', c1', c2'⟩ := hpb)
    go_region
    go_wp2_with fail
    go_ret2
    cases HQ.out
    exact ⟨rfl, (by (repeat' (first | (with_reducible exact Below.refl _ _) | (with_reducible assumption) | (with_reducible refine Below.alloc ?_ ?_ _) | (with_reducible refine Below.drew ?_) | (with_reducible refine drewN_below ?_) | (with_reducible refine Below.setCell ?_ ?_ _) | go_size)))⟩
end Go.Proofs.YtpndnbjpnajaaaaGreatDoor
namespace Go.Proofs.Qw
open Go.RowKit Go.Proofs.YtpndnbjpnajaaaaGreatDoor
theorem spanS_closed {s : St} (h : s.anc = s.foc) : spanS s = (s.anc, s.anc) := by
 have : cmpP s.foc s.foc = 0 := by simp [cmpP, cmpI]
 unfold spanS
 rw [h, this, if_neg (by omega)]
theorem mayS_at {s : St} (h : mayS s = true) : mayD s.lines = true ∧ isD s.lines s.anc = true ∧ isD s.lines s.foc = true ∧ bits .andNot .i64 s.on 15 = 0 ∧ bits .andNot .i64 s.off 15 = 0 ∧ bits .and .i64 s.on s.off = 0 := by
 simpa [mayS, and_assoc] using h
theorem mayS_span {s : St} (h : mayS s = true) : spanD s.lines (spanS s).1 (spanS s).2 = true := by
 obtain ⟨h1, h2, h3, _⟩ := mayS_at h
 unfold spanS
 split
 ·rename_i hc
  rw [cmpP_lt] at hc
  simp [spanD, h1, h2, h3]
  omega
 ·simp [spanD, h1, h2, h3]
  omega
end Go.Proofs.Qw
namespace Go.Proofs.YtpndnbjpnajaaaaGreatDoor
open Go.RowKit
open Go.Proofs.Qw
set_option maxRecDepth 100000 in
set_option maxHeartbeats 4000000 in
theorem stMay_any (v : Value) (s : St) (w : World) (S : Nat → Prop) (h : LinsR w S v s.lines) (he : EnvT w) (hs : Small s.lines) :
  Calls Tryz.prog 27 #[stV v s] w fun e w' => e = .returned (.bool (mayS s)) ∧ Below w.heap.size w w' := by
 obtain ⟨W1, hW1, hB, hz, hA⟩ := one_st w v s
 have hs1 := hB.size
 have HC1 := Lib.hid (docMay_any v s.lines W1 w S h (he.below hB) hB hs)
 have HC2 : Hid (∀ p : Ps, ∀ W, Below W1.heap.size W1 W → Calls Tryz.prog 91 #[v, .agg #[.int .i64 p.line, .int .i64 p.col]] W fun e w' => e = .returned (.bool (isD s.lines p)) ∧ Below W.heap.size W w') := Lib.hid fun p W hW => is_any v s.lines p W w S h (hB.trans (hW.mono hs1))
 have HB : Hid (∀ W, Below W1.heap.size W1 W → W.heap[w.heap.size]? = some (.cells #[v, .int .i64 s.anc.line, .int .i64 s.anc.col, .int .i64 s.foc.line, .int .i64 s.foc.col, .int .i64 s.on, .int .i64 s.off] 26)) := Lib.hid fun W hW => heap_below hW hA
 have HE : Hid (mayS s = (mayD s.lines && (isD s.lines s.anc && (isD s.lines s.foc && (bits .andNot .i64 s.on 15 == 0 && (bits .andNot .i64 s.off 15 == 0 && bits .and .i64 s.on s.off == 0)))))) := Lib.hid rfl
 have H1 := Lib.hid hB
 obtain ⟨p0, f0⟩ := blk hA
 obtain ⟨va, vc, rfl⟩ := h.slice
 clear h he hs hz hA hB
 generalize mayS s = r at *
 generalize mayD s.lines = x at *
 go_enter Tryz.func27, Tryz.ntmps27
 go_wp2_with (first
  | (go_at_call 90; refine HC1.out.mono ?_; rintro e w2 ⟨rfl, hb2⟩; obtain ⟨p3, f3⟩ := blk (HB.out _ hb2); cases x)
  | (go_at_call 91; refine (HC2.out _ _ (by assumption)).mono ?_; rintro e w3 ⟨rfl, hb3⟩; have hx3 : Below W1.heap.size W1 w3 := below_from (by assumption) hb3; clear hb3; obtain ⟨p5, f5⟩ := blk (HB.out _ hx3)))
 all_goals
  go_ret
  refine ⟨?_, H1.out.trans (Below.mono (by assumption) hs1)⟩
  rw [HE.out]
  refine congrArg Ending.returned (congrArg Value.bool ?_)
  clear HE HC1 HC2 HB H1
  simp (config := { failIfUnchanged := false }) [*]
end Go.Proofs.YtpndnbjpnajaaaaGreatDoor
namespace Go.Proofs.YtpndnbjpnajaaaaGreatDoor
open Go.RowKit
open Go.Proofs.Qw
set_option maxRecDepth 100000 in
set_option maxHeartbeats 4000000 in
theorem stSpan_any (v : Value) (s : St) (w : World) :
  Calls Tryz.prog 28 #[stV v s] w fun e w' => e = .returned (.tuple #[.agg #[.int .i64 (spanS s).1.line, .int .i64 (spanS s).1.col], .agg #[.int .i64 (spanS s).2.line, .int .i64 (spanS s).2.col]]) ∧ Below w.heap.size w w' := by
 obtain ⟨W1, hW1, hB, hz, k0, k1, k2⟩ := st_pos2 w v s
 have hs1 := hB.size
 have HC : Hid (Calls Tryz.prog 92 #[.agg #[.int .i64 s.anc.line, .int .i64 s.anc.col], .agg #[.int .i64 s.foc.line, .int .i64 s.foc.col]] W1 fun e w' => e = .returned (.int .i64 (cmpP s.anc s.foc)) ∧ Below W1.heap.size W1 w') := Lib.hid (cmp_any s.anc s.foc W1)
 have HR : Hid (spanS s = if 0 < cmpP s.anc s.foc then (s.foc, s.anc) else (s.anc, s.foc)) := Lib.hid (by unfold spanS; first | rfl | simp only [cmpP_lt])
 have HB : Hid (∀ W, Below W1.heap.size W1 W → W.heap[w.heap.size]? = some (.cells #[v, .int .i64 s.anc.line, .int .i64 s.anc.col, .int .i64 s.foc.line, .int .i64 s.foc.col, .int .i64 s.on, .int .i64 s.off] 26) ∧ W.heap[w.heap.size + 1]? = some (.cells #[.int .i64 0, .int .i64 0] 24) ∧ W.heap[w.heap.size + 2]? = some (.cells #[.int .i64 0, .int .i64 0] 24)) := Lib.hid fun W hW => ⟨heap_below hW k0, heap_below hW k1, heap_below hW k2⟩
 have H1 := Lib.hid hB
 obtain ⟨p0, f0⟩ := blk k0
 clear k0 k1 k2 hB
 generalize cmpP s.anc s.foc = r at *
 by_cases hr : 0 < r
 ·rw [if_pos hr] at HR
  have hr' := decide_eq_true hr
  have HR' := Lib.hid HR.out
  clear HR
  go_enter Tryz.func28, Tryz.ntmps28
  go_wp2_with (go_at_call 92; refine HC.out.mono ?_; rintro e w2 ⟨rfl, hb2⟩; obtain ⟨q0, g0⟩ := blk (HB.out _ hb2).1; obtain ⟨q1, g1⟩ := blk (HB.out _ hb2).2.1; obtain ⟨q2, g2⟩ := blk (HB.out _ hb2).2.2)
  go_region
  go_wp2_with fail
  refine bodyPost_ret (results_two_pos rfl _ _ (w.heap.size + 1) (w.heap.size + 2) (.int .i64 s.foc.line) (.int .i64 s.foc.col) (.int .i64 s.anc.line) (.int .i64 s.anc.col) rfl rfl (by change (World.setCell _ _ _).heap[_]? = _; simp [heap_set, putIn, (HB.out _ hb2).2.1]) (by change (World.setCell _ _ _).heap[_]? = _; simp [heap_set, putIn, (HB.out _ hb2).2.2])) rfl ?_
  rw [HR'.out]
  have hfin := H1.out.trans (hb2.mono hs1)
  exact ⟨rfl, by (repeat' (first | (with_reducible exact Below.refl _ _) | (with_reducible assumption) | (with_reducible refine Below.alloc ?_ ?_ _) | (with_reducible refine Below.drew ?_) | (with_reducible refine drewN_below ?_) | (with_reducible refine Below.setCell ?_ ?_ _) | go_size))⟩
 ·rw [if_neg hr] at HR
  have hr' := decide_eq_false hr
  have HR' := Lib.hid HR.out
  clear HR
  go_enter Tryz.func28, Tryz.ntmps28
  go_wp2_with (go_at_call 92; refine HC.out.mono ?_; rintro e w2 ⟨rfl, hb2⟩; obtain ⟨q0, g0⟩ := blk (HB.out _ hb2).1; obtain ⟨q1, g1⟩ := blk (HB.out _ hb2).2.1; obtain ⟨q2, g2⟩ := blk (HB.out _ hb2).2.2)
  go_region
  go_wp2_with fail
  refine bodyPost_ret (results_two_pos rfl _ _ (w.heap.size + 1) (w.heap.size + 2) (.int .i64 s.anc.line) (.int .i64 s.anc.col) (.int .i64 s.foc.line) (.int .i64 s.foc.col) rfl rfl (by change (World.setCell _ _ _).heap[_]? = _; simp [heap_set, putIn, (HB.out _ hb2).2.1]) (by change (World.setCell _ _ _).heap[_]? = _; simp [heap_set, putIn, (HB.out _ hb2).2.2])) rfl ?_
  rw [HR'.out]
  have hfin := H1.out.trans (hb2.mono hs1)
  exact ⟨rfl, by (repeat' (first | (with_reducible exact Below.refl _ _) | (with_reducible assumption) | (with_reducible refine Below.alloc ?_ ?_ _) | (with_reducible refine Below.drew ?_) | (with_reducible refine drewN_below ?_) | (with_reducible refine Below.setCell ?_ ?_ _) | go_size))⟩
set_option maxRecDepth 100000 in
set_option maxHeartbeats 4000000 in
theorem refStSpan_any (v : Value) (s : St) (w : World) :
  Calls Tryz.prog 69 #[stV v s] w fun e w' => e = .returned (.tuple #[.agg #[.int .i64 (spanS s).1.line, .int .i64 (spanS s).1.col], .agg #[.int .i64 (spanS s).2.line, .int .i64 (spanS s).2.col]]) ∧ Below w.heap.size w w' := by
 obtain ⟨W1, hW1, hB, hz, k0, k1, k2⟩ := st_pos2 w v s
 have hs1 := hB.size
 have HC : Hid (Calls Tryz.prog 32 #[.agg #[.int .i64 s.foc.line, .int .i64 s.foc.col], .agg #[.int .i64 s.anc.line, .int .i64 s.anc.col]] W1 fun e w' => e = .returned (.int .i64 (cmpP s.foc s.anc)) ∧ Below W1.heap.size W1 w') := Lib.hid (refCmp_any s.foc s.anc W1)
 have HR : Hid (spanS s = if cmpP s.foc s.anc < 0 then (s.foc, s.anc) else (s.anc, s.foc)) := Lib.hid (by unfold spanS; first | rfl | simp only [cmpP_lt])
 have HB : Hid (∀ W, Below W1.heap.size W1 W → W.heap[w.heap.size]? = some (.cells #[v, .int .i64 s.anc.line, .int .i64 s.anc.col, .int .i64 s.foc.line, .int .i64 s.foc.col, .int .i64 s.on, .int .i64 s.off] 26) ∧ W.heap[w.heap.size + 1]? = some (.cells #[.int .i64 0, .int .i64 0] 24) ∧ W.heap[w.heap.size + 2]? = some (.cells #[.int .i64 0, .int .i64 0] 24)) := Lib.hid fun W hW => ⟨heap_below hW k0, heap_below hW k1, heap_below hW k2⟩
 have H1 := Lib.hid hB
 obtain ⟨p0, f0⟩ := blk k0
 clear k0 k1 k2 hB
 generalize cmpP s.foc s.anc = r at *
 by_cases hr : r < 0
 ·rw [if_pos hr] at HR
  have hr' := decide_eq_true hr
  have HR' := Lib.hid HR.out
  clear HR
  go_enter Tryz.func69, Tryz.ntmps69
  go_wp2_with (go_at_call 32; refine HC.out.mono ?_; rintro e w2 ⟨rfl, hb2⟩; obtain ⟨q0, g0⟩ := blk (HB.out _ hb2).1; obtain ⟨q1, g1⟩ := blk (HB.out _ hb2).2.1; obtain ⟨q2, g2⟩ := blk (HB.out _ hb2).2.2)
  go_region
  go_wp2_with fail
  refine bodyPost_ret (results_two_pos rfl _ _ (w.heap.size + 1) (w.heap.size + 2) (.int .i64 s.foc.line) (.int .i64 s.foc.col) (.int .i64 s.anc.line) (.int .i64 s.anc.col) rfl rfl (by change (World.setCell _ _ _).heap[_]? = _; simp [heap_set, putIn, (HB.out _ hb2).2.1]) (by change (World.setCell _ _ _).heap[_]? = _; simp [heap_set, putIn, (HB.out _ hb2).2.2])) rfl ?_
  rw [HR'.out]
  have hfin := H1.out.trans (hb2.mono hs1)
  exact ⟨rfl, by (repeat' (first | (with_reducible exact Below.refl _ _) | (with_reducible assumption) | (with_reducible refine Below.alloc ?_ ?_ _) | (with_reducible refine Below.drew ?_) | (with_reducible refine drewN_below ?_) | (with_reducible refine Below.setCell ?_ ?_ _) | go_size))⟩
 ·rw [if_neg hr] at HR
  have hr' := decide_eq_false hr
  have HR' := Lib.hid HR.out
  clear HR
  go_enter Tryz.func69, Tryz.ntmps69
  go_wp2_with (go_at_call 32; refine HC.out.mono ?_; rintro e w2 ⟨rfl, hb2⟩; obtain ⟨q0, g0⟩ := blk (HB.out _ hb2).1; obtain ⟨q1, g1⟩ := blk (HB.out _ hb2).2.1; obtain ⟨q2, g2⟩ := blk (HB.out _ hb2).2.2)
  go_region
  go_wp2_with fail
  refine bodyPost_ret (results_two_pos rfl _ _ (w.heap.size + 1) (w.heap.size + 2) (.int .i64 s.anc.line) (.int .i64 s.anc.col) (.int .i64 s.foc.line) (.int .i64 s.foc.col) rfl rfl (by change (World.setCell _ _ _).heap[_]? = _; simp [heap_set, putIn, (HB.out _ hb2).2.1]) (by change (World.setCell _ _ _).heap[_]? = _; simp [heap_set, putIn, (HB.out _ hb2).2.2])) rfl ?_
  rw [HR'.out]
  have hfin := H1.out.trans (hb2.mono hs1)
  exact ⟨rfl, by (repeat' (first | (with_reducible exact Below.refl _ _) | (with_reducible assumption) | (with_reducible refine Below.alloc ?_ ?_ _) | (with_reducible refine Below.drew ?_) | (with_reducible refine drewN_below ?_) | (with_reducible refine Below.setCell ?_ ?_ _) | go_size))⟩
end Go.Proofs.YtpndnbjpnajaaaaGreatDoor
namespace Go.Proofs.Qw
open Go.RowKit Go.Proofs.YtpndnbjpnajaaaaGreatDoor
section
variable {P : Program} {ops : Array Oper} {C : World → Prop} {K : Act → Prop} {a : Act} {o : Oper}
abbrev Grew (n : Nat) (w : World) : World → Prop := fun W => Below n w W
theorem wp_region_grew {id : Nat} {Q : Exit → Act → World → Prop} {a : Act} {w : World} {l : List Oper} (n : Nat) (hm : P.follows .mixedOrders = true) (hB : Region.lexB .any l.toArray = true)
  (h : wpQuiet P l.toArray (Grew n w) (fun a' => ∀ w', Below n w w' → Q .normal a' w') l a) : (Code.region id l.toArray true).wp P Q a w :=
 wp_region_quiet (C := Grew n w) hm hB ((Below.refl n w).drew) (by simpa using h)
theorem quiet_val (v : Value) (h : ∀ W, C W → (execOp a.eval o).run P W = .ok (.value v) W) (hk : K (a.put o.dst v)) : o.quiet P a C K :=
 ⟨v, fun W hW => by unfold Oper.quietAt; rw [h W hW]; exact ⟨rfl, rfl⟩, hk⟩
theorem quiet_calls (v : Value) {f : FuncId} {args : Array Value} (h : ∀ W, C W → (execOp a.eval o).run P W = .ok (.enter f args) W) (hc : ∀ W, C W → Calls P f args W fun e W' => e = .returned v ∧ C W') (hk : K (a.put o.dst v)) : o.quiet P a C K :=
 ⟨v, fun W hW => by unfold Oper.quietAt; rw [h W hW]; exact ⟨rfl, hc W hW⟩, hk⟩
end
end Go.Proofs.Qw
namespace Go.Proofs.YtpndnbjpnajaaaaGreatDoor
open Go.RowKit
open Go.Proofs.Qw
theorem run_neq_pos (p q : Ps) (w : World) : (binOp .neq 24 (.agg #[.int .i64 p.line, .int .i64 p.col]) (.agg #[.int .i64 q.line, .int .i64 q.col])).run Tryz.prog w = .ok (.bool (!decide (p = q))) w := by
 have h1 : Tryz.prog.stoodInHeld 24 = false := by kernel_rfl
 have h2 : Tryz.prog.underlying 24 = some (.struct (Tryz.prog.fieldsOf 24)) := by kernel_rfl
 rw [run_neq_struct, show (10000:Nat) = 9999 + 1 from rfl, run_equalIn_agg _ _ _ _ _ h2 h1]
 simp [Tryz.underlying24, go_sem]
 obtain ⟨a, b⟩ := p
 obtain ⟨d, e⟩ := q
 simp only [Ps.mk.injEq]
 by_cases e1 : a = d <;> by_cases e2 : b = e <;> simp [e1, e2]
end Go.Proofs.YtpndnbjpnajaaaaGreatDoor
namespace Go.Proofs.YtpndnbjpnajaaaaGreatDoor
open Go.RowKit
open Go.Proofs.Qw
theorem results_st_e {fn : Func} {p u : Tmp} (h : fn.results = #[.cell p 26, .tmp u]) (tmps : Array Value) (w : World) (B : Nat) (a b c d e f g x : Value) (hp : tmps.getD p undef = .pointer (some ⟨B, 0, none⟩)) (hu : tmps.getD u undef = x) (hg : w.heap[B]? = some (.cells #[a, b, c, d, e, f, g] 26)) :
  (results fn tmps).run Tryz.prog w = .ok (.tuple #[.agg #[a, b, c, d, e, f, g], x]) w := by
 have hp' : tmps[p]?.getD undef = .pointer (some ⟨B, 0, none⟩) := by simpa using hp
 have hu' : tmps[u]?.getD undef = x := by simpa using hu
 have e1 := run_loadVar_row (P := Tryz.prog) w B 26 26 _ _ _ hg Tryz.underlying26 rfl (by kernel_rfl)
 simp [results, h, hp', hu', asAddr, e1]
end Go.Proofs.YtpndnbjpnajaaaaGreatDoor
namespace Go.Proofs.YtpndnbjpnajaaaaGreatDoor
open Go.RowKit
open Go.Proofs.Qw
set_option maxRecDepth 100000 in
set_option maxHeartbeats 4000000 in
theorem refStMay_any (v : Value) (s : St) (w : World) (S : Nat → Prop) (h : LinsR w S v s.lines) (hs : Small s.lines) (ho : -9223372036854775808 ≤ s.on ∧ s.on ≤ 9223372036854775807) (hf : -9223372036854775808 ≤ s.off ∧ s.off ≤ 9223372036854775807) :
  Calls Tryz.prog 70 #[stV v s] w fun e w' => e = .returned (.bool (mayS s)) ∧ Below w.heap.size w w' := by
 obtain ⟨W1, hW1, hB, hz, hA⟩ := one_st w v s
 have hs1 := hB.size
 have hv := h.below (rdLin_stable _) hB
 have HC1 := Lib.hid (refMay_any v s.lines W1 S hv hs)
 have HC2 : Hid (∀ p : Ps, ∀ W, Below W1.heap.size W1 W → Calls Tryz.prog 144 #[v, .agg #[.int .i64 p.line, .int .i64 p.col]] W fun e w' => e = .returned (.bool (isD s.lines p)) ∧ Below W.heap.size W w') := Lib.hid fun p W hW => refIs_any v s.lines p W S (hv.below (rdLin_stable _) hW)
 have HB : Hid (∀ W, Below W1.heap.size W1 W → W.heap[w.heap.size]? = some (.cells #[v, .int .i64 s.anc.line, .int .i64 s.anc.col, .int .i64 s.foc.line, .int .i64 s.foc.col, .int .i64 s.on, .int .i64 s.off] 26)) := Lib.hid fun W hW => heap_below hW hA
 have HE : Hid (mayS s = (mayD s.lines && (isD s.lines s.anc && (isD s.lines s.foc && ((decide (0 ≤ s.on) && decide (s.on ≤ 15)) && ((decide (0 ≤ s.off) && decide (s.off ≤ 15)) && bits .and .i64 s.on s.off == 0)))))) := Lib.hid (by unfold mayS; rw [bits_small _ ho, bits_small _ hf])
 have H1 := Lib.hid hB
 have hw0 : Below W1.heap.size W1 W1 := Below.refl _ _
 obtain ⟨p0, f0⟩ := blk hA
 obtain ⟨va, vc, rfl⟩ := h.slice
 clear h hs hz hA hB hv ho hf
 generalize mayS s = r at *
 generalize mayD s.lines = x at *
 by_cases hq : (0 ≤ s.on ∧ s.on ≤ 15) ∧ (0 ≤ s.off ∧ s.off ≤ 15) ∧ bits .and .i64 s.on s.off = 0
 ·obtain ⟨⟨h1, h2⟩, ⟨h3, h4⟩, h5⟩ := hq
  have HE : Hid (r = (x && (isD s.lines s.anc && isD s.lines s.foc))) := Lib.hid (by rw [HE.out]; simp [h1, h2, h3, h4, h5])
  have h6 : (bits .and .i64 s.on s.off != 0) = false := by simpa using h5
  clear h5
  go_enter Tryz.func70, Tryz.ntmps70
  go_wp2_with (first
   | (go_at_call 62; refine HC1.out.mono ?_; rintro e w2 ⟨rfl, hb2⟩; obtain ⟨p3, f3⟩ := blk (HB.out _ hb2); cases x)
   | (go_at_call 144; refine (HC2.out _ _ (by assumption)).mono ?_; rintro e w3 ⟨rfl, hb3⟩; have hx3 : Below W1.heap.size W1 w3 := below_from (by assumption) hb3; clear hb3; obtain ⟨p5, f5⟩ := blk (HB.out _ hx3)))
  all_goals
   go_ret
   refine ⟨?_, H1.out.trans (Below.mono (by assumption) hs1)⟩
   rw [HE.out]
   refine congrArg Ending.returned (congrArg Value.bool ?_)
   clear HE HC1 HC2 HB H1
   simp (config := { failIfUnchanged := false }) [*]
 ·have HE : Hid (r = false) := Lib.hid (by
   rw [HE.out, Bool.eq_false_iff]
   intro h
   simp at h
   exact hq ⟨h.2.2.2.1, h.2.2.2.2.1, h.2.2.2.2.2⟩)
  have hq' : s.on < 0 ∨ (0 ≤ s.on ∧ 15 < s.on) ∨ (0 ≤ s.on ∧ s.on ≤ 15 ∧ s.off < 0) ∨ (0 ≤ s.on ∧ s.on ≤ 15 ∧ 0 ≤ s.off ∧ 15 < s.off) ∨ (0 ≤ s.on ∧ s.on ≤ 15 ∧ 0 ≤ s.off ∧ s.off ≤ 15 ∧ (bits .and .i64 s.on s.off != 0) = true) := by
   by_cases h5 : bits .and .i64 s.on s.off = 0
   ·omega
   ·have h6 : (bits .and .i64 s.on s.off != 0) = true := by simpa using h5
    simp only [h6, and_true]
    omega
  clear hq HC1 HC2
  rcases hq' with h1 | ⟨h1, h2⟩ | ⟨h1, h2, h3⟩ | ⟨h1, h2, h3, h4⟩ | ⟨h1, h2, h3, h4, h5⟩
  all_goals
   go_enter Tryz.func70, Tryz.ntmps70
   go_wp2_with fail
   go_ret
   rw [HE.out]
   exact ⟨rfl, H1.out⟩
end Go.Proofs.YtpndnbjpnajaaaaGreatDoor
namespace Go.Proofs.Qw
open Go.RowKit Go.Proofs.YtpndnbjpnajaaaaGreatDoor
def closedS (d : Doc) (p : Ps) : St := ⟨d, p, p, 0, 0⟩
end Go.Proofs.Qw
namespace Go.Proofs.YtpndnbjpnajaaaaGreatDoor
open Go.RowKit
open Go.Proofs.Qw
attribute [local go_sem] Oper.semAt_some
theorem pos_st (w : World) (p : Ps) : ∃ W1, (w.alloc (.cells #[.int .i64 p.line, .int .i64 p.col] 24)).alloc (.cells #[.slice none 0 0, .int .i64 0, .int .i64 0, .int .i64 0, .int .i64 0, .int .i64 0, .int .i64 0] 26) = W1 ∧ Below w.heap.size w W1 ∧ w.heap.size + 2 = W1.heap.size ∧ W1.heap[w.heap.size]? = some (.cells #[.int .i64 p.line, .int .i64 p.col] 24) ∧ W1.heap[w.heap.size + 1]? = some (.cells #[.slice none 0 0, .int .i64 0, .int .i64 0, .int .i64 0, .int .i64 0, .int .i64 0, .int .i64 0] 26) :=
 ⟨_, rfl, below2 (Below.refl _ _) _ _, by simp, heap_old _ _ (heap_new _ _ rfl), heap_new _ _ (by simp)⟩
set_option maxRecDepth 100000 in
set_option maxHeartbeats 2000000 in
theorem typClosed_any (a : Option Addr) (n c : Nat) (p : Ps) (w : World) :
  Calls Tryz.prog 140 #[.slice a n c, .agg #[.int .i64 p.line, .int .i64 p.col]] w fun e w' => e = .returned (.agg #[.slice a n c, .int .i64 p.line, .int .i64 p.col, .int .i64 p.line, .int .i64 p.col, .int .i64 0, .int .i64 0]) ∧ Below w.heap.size w w' := by
 obtain ⟨W1, hW1, hB, hz, k0, k1⟩ := pos_st w p
 have H1 := Lib.hid hB
 have HK := Lib.hid k1
 obtain ⟨p0, f0⟩ := blk k0
 obtain ⟨p1, f1⟩ := blk k1
 clear k0 k1 hB
 go_enter Tryz.func140, Tryz.ntmps140
 go_wp2_with fail
 refine bodyPost_ret (results_st rfl _ _ (w.heap.size + 1) (.slice a n c) (.int .i64 p.line) (.int .i64 p.col) (.int .i64 p.line) (.int .i64 p.col) (.int .i64 0) (.int .i64 0) rfl (by simp [heap_set, putIn, HK.out])) rfl ?_
 have hfin := H1.out
 exact ⟨rfl, by (repeat' (first | (with_reducible exact Below.refl _ _) | (with_reducible assumption) | (with_reducible refine Below.alloc ?_ ?_ _) | (with_reducible refine Below.drew ?_) | (with_reducible refine drewN_below ?_) | (with_reducible refine Below.setCell ?_ ?_ _) | go_size))⟩
set_option maxRecDepth 100000 in
set_option maxHeartbeats 2000000 in
theorem refClosed_any (v : Value) (d : Doc) (p : Ps) (w : World) (S : Nat → Prop) (h : LinsR w S v d) (hf : Fits d) :
  Calls Tryz.prog 112 #[v, .agg #[.int .i64 p.line, .int .i64 p.col]] w fun e w' => ∃ v', e = .returned (stV v' (closedS d p)) ∧ DocR true w' (fun b => w.heap.size ≤ b) v' d ∧ Below w.heap.size w w' := by
 obtain ⟨W1, hW1, hB, hz, k0, k1⟩ := pos_st w p
 have hs1 := hB.size
 have HC : Hid (∀ W, Below W1.heap.size W1 W → Calls Tryz.prog 102 #[v] W fun e w' => ∃ v', e = .returned v' ∧ DocR true w' (fun b => W.heap.size ≤ b) v' d ∧ Below W.heap.size W w') := Lib.hid fun W hW => refOwnD_any v d W S (h.below (rdLin_stable _) (hB.trans (hW.mono hs1))) hf
 have HB : Hid (∀ W, Below W1.heap.size W1 W → W.heap[w.heap.size]? = some (.cells #[.int .i64 p.line, .int .i64 p.col] 24) ∧ W.heap[w.heap.size + 1]? = some (.cells #[.slice none 0 0, .int .i64 0, .int .i64 0, .int .i64 0, .int .i64 0, .int .i64 0, .int .i64 0] 26)) := Lib.hid fun W hW => ⟨heap_below hW k0, heap_below hW k1⟩
 have H1 := Lib.hid hB
 have hb0 : Below W1.heap.size W1 W1.drew := (Below.refl _ _).drew
 obtain ⟨p0, f0⟩ := blk k0
 obtain ⟨va, vc, rfl⟩ := h.slice
 clear h hf k0 k1 hB
 go_enter Tryz.func112, Tryz.ntmps112
 go_wp2_with fail
 go_region_held3 (fun w' => w'.cell? ⟨w.heap.size, 0, none⟩ = some (.int .i64 p.line) ∧ w'.cell? ⟨w.heap.size, 1, none⟩ = some (.int .i64 p.col)) (go_keep)
  ((go_at_call 102; refine (HC.out _ hb0).mono ?_; rintro e w2 ⟨v2, rfl, hv2, hb2'⟩; obtain ⟨a2, c2, rfl⟩ := hv2.slice; have hb2 := below_from hb0 hb2'; obtain ⟨q0, g0⟩ := blk (HB.out _ hb2).1; obtain ⟨q1, g1⟩ := blk (HB.out _ hb2).2; have HV := Lib.hid hv2; clear hv2))
 go_wp2_with fail
 refine bodyPost_ret (results_st rfl _ _ (w.heap.size + 1) (.slice a2 d.length c2) (.int .i64 p.line) (.int .i64 p.col) (.int .i64 p.line) (.int .i64 p.col) (.int .i64 0) (.int .i64 0) rfl (by simp [heap_set, putIn, (HB.out _ hb2).2])) rfl ?_
 have hfin := H1.out.trans (hb2.mono hs1)
 have hv2 := HV.out
 exact ⟨_, rfl, (SliceR.stable (rdLin_stable _) hv2 (by (repeat' (first | (with_reducible exact Keeps.refl _ _) | (with_reducible refine Keeps.set ?_ ?_ _) | (with_reducible refine Keeps.alloc ?_ _) | (with_reducible refine Keeps.drew ?_) | (first | fail) | (simp; omega)))) (fun b h _ => (by have h' := h; (try simp at h'); omega))), by (repeat' (first | (with_reducible exact Below.refl _ _) | (with_reducible assumption) | (with_reducible refine Below.alloc ?_ ?_ _) | (with_reducible refine Below.drew ?_) | (with_reducible refine drewN_below ?_) | (with_reducible refine Below.setCell ?_ ?_ _) | go_size))⟩
end Go.Proofs.YtpndnbjpnajaaaaGreatDoor
namespace Go.Proofs.Qw
open Go.RowKit Go.Proofs.YtpndnbjpnajaaaaGreatDoor
def lastF (l : List Int) : Int := l.getLastD (-1)
end Go.Proofs.Qw
namespace Go.Proofs.YtpndnbjpnajaaaaGreatDoor
open Go.RowKit
open Go.Proofs.Qw
attribute [local go_sem] Oper.semAt_some
set_option maxHeartbeats 1000000 in
theorem lineLast_any (B : Nat) (q k : Int) (l : List Int) (la : Option Addr) (lc : Nat) (cv : Value) (w : World) (S : Nat → Prop) (h : IntsR false w S (.slice la l.length lc) l) (hB : w.heap[B]? = some (.cells #[.int .i64 q, .slice la l.length lc, .int .i64 k, cv] 42)) :
  Calls Tryz.prog 231 #[.pointer (some ⟨B, 0, none⟩)] w fun e w' => e = .returned (.int .i64 (lastF l)) ∧ Below w.heap.size w w' ∧ w'.heap = w.heap := by
 obtain ⟨a, c, he, hc, hm, hx⟩ := ints_shape h
 cases he
 obtain ⟨p0, f0⟩ := blk hB
 unfold maxLen at hm
 by_cases hn : l = []
 ·subst hn
  have HR : Hid (lastF [] = -1) := Lib.hid rfl
  clear h hx hB
  go_enter Tryz.func231, Tryz.ntmps231
  go_wp2_with fail
  go_ret
  rw [HR.out]
  exact ⟨rfl, Below.refl _ _, rfl⟩
 ·obtain ⟨n, hnl⟩ : ∃ n, l.length = n + 1 := ⟨l.length - 1, by have := List.length_pos_iff.2 hn; omega⟩
  obtain ⟨x, hx0, _⟩ := getOf l n (by omega)
  obtain ⟨b, o, rfl, hz, c0⟩ := hx n x hx0
  have HR : Hid (lastF l = x) := Lib.hid (by
   unfold lastF
   rw [List.getLastD_eq_getLast?, List.getLast?_eq_getElem?, hnl, Nat.add_sub_cancel, hx0]
   rfl)
  have hl0 : (((n + 1 : Nat) : Int) == 0) = false := by simp; omega
  have e1 : IntKind.i64.wrap (((n + 1 : Nat) : Int) - 1) = (n : Int) := by rw [show (((n + 1 : Nat) : Int) - 1) = (n : Int) by omega]; exact IntWalk.i64_in _ (by omega)
  have i0 : (0 : Int) ≤ (n : Int) := Int.natCast_nonneg _
  have i1 : (n : Int) < ((n + 1 : Nat) : Int) := by omega
  rw [hnl] at p0 hc
  clear h hx hB hx0 hnl hn
  go_enter Tryz.func231, Tryz.ntmps231
  go_wp2_with fail
  go_quiet (fail)
  go_wp2_with fail
  go_ret
  rw [HR.out]
  exact ⟨rfl, by (repeat' (first | (with_reducible exact Below.refl _ _) | (with_reducible assumption) | (with_reducible refine Below.alloc ?_ ?_ _) | (with_reducible refine Below.drew ?_) | (with_reducible refine drewN_below ?_) | (with_reducible refine Below.setCell ?_ ?_ _) | go_size)), rfl⟩
set_option maxHeartbeats 1000000 in
theorem lineLift_yes (B : Nat) (q k : Int) (l : List Int) (la : Option Addr) (lc : Nat) (cv : Value) (w : World) (S : Nat → Prop) (h : IntsR false w S (.slice la l.length lc) l) (hB : w.heap[B]? = some (.cells #[.int .i64 q, .slice la l.length lc, .int .i64 k, cv] 42)) (hne : l ≠ []) (hl : 0 ≤ lastF l) :
  Calls Tryz.prog 186 #[.pointer (some ⟨B, 0, none⟩)] w fun e w' => e = .returned (.bool true) ∧ ∃ w1, w1.heap = w.heap ∧ Below w.heap.size w w1 ∧ w' = w1.setCell ⟨B, 1, none⟩ (.slice la (l.length - 1) (l.length - 1)) := by
 have HC := Lib.hid (lineLast_any B q k l la lc cv w S h hB)
 obtain ⟨a, c, he, hc, hm, hx⟩ := ints_shape h
 cases he
 obtain ⟨n, hnl⟩ : ∃ n, l.length = n + 1 := ⟨l.length - 1, by have := List.length_pos_iff.2 hne; omega⟩
 obtain ⟨x, hx0, _⟩ := getOf l n (by omega)
 obtain ⟨b, o, rfl, hz, c0⟩ := hx n x hx0
 obtain ⟨r, hr⟩ : ∃ r, lastF l = r := ⟨_, rfl⟩
 rw [hr] at HC hl
 unfold maxLen at hm
 have HN : Hid (l.length - 1 = n) := Lib.hid (by omega)
 have hr0 : ¬ r < 0 := by omega
 have HBB := Lib.hid hB
 rw [HN.out]
 rw [hnl] at hc HBB
 clear h hx hB hx0 hnl hne hr hl c0 hz HN
 have n0 : (0 : Int) ≤ (n : Int) := Int.natCast_nonneg _
 have n1 : (n : Int) ≤ lc := by omega
 have n2 : n ≤ lc := by omega
 have n3 : ((n : Int)).toNat = n := Int.toNat_natCast _
 go_enter Tryz.func186, Tryz.ntmps186
 go_wp2_with (go_at_call 231; refine HC.out.mono ?_; rintro e w1 ⟨rfl, hb1, hh1⟩; have HW1 := Lib.hid (And.intro hb1 hh1); have HB1 : Hid (w1.heap[B]? = _) := Lib.hid (hh1 ▸ HBB.out); clear hb1 hh1; obtain ⟨p0, f0⟩ := blk HB1.out)
 go_ret
 exact ⟨rfl, w1, HW1.out.2, HW1.out.1, rfl⟩
set_option maxHeartbeats 1000000 in
theorem lineLift_no (B : Nat) (q k : Int) (l : List Int) (la : Option Addr) (lc : Nat) (cv : Value) (w : World) (S : Nat → Prop) (h : IntsR false w S (.slice la l.length lc) l) (hB : w.heap[B]? = some (.cells #[.int .i64 q, .slice la l.length lc, .int .i64 k, cv] 42)) (hl : lastF l < 0) :
  Calls Tryz.prog 186 #[.pointer (some ⟨B, 0, none⟩)] w fun e w' => e = .returned (.bool false) ∧ Below w.heap.size w w' ∧ w'.heap = w.heap := by
 have HC := Lib.hid (lineLast_any B q k l la lc cv w S h hB)
 obtain ⟨r, hr⟩ : ∃ r, lastF l = r := ⟨_, rfl⟩
 rw [hr] at HC hl
 clear h hB hr
 go_enter Tryz.func186, Tryz.ntmps186
 go_wp2_with (go_at_call 231; refine HC.out.mono ?_; rintro e w1 ⟨rfl, hb1, hh1⟩; have HW1 := Lib.hid (And.intro hb1 hh1); clear hb1 hh1)
 go_ret
 exact ⟨rfl, HW1.out.1, HW1.out.2⟩
end Go.Proofs.YtpndnbjpnajaaaaGreatDoor
namespace Go.Proofs.Qw
open Go.RowKit Go.Proofs.YtpndnbjpnajaaaaGreatDoor
def outdentL (l : Lin) : Option Lin := if l.lists ≠ [] then some { l with lists := l.lists.dropLast } else if 0 < l.quote then some { l with quote := l.quote - 1 } else none
def freeL (l : Lin) : Option Lin := if l.lists ≠ [] then some { l with lists := l.lists.dropLast } else if 0 < l.kind then some { l with kind := 0 } else if 0 < l.quote then some { l with quote := l.quote - 1 } else none
end Go.Proofs.Qw
namespace Go.Proofs.YtpndnbjpnajaaaaGreatDoor
open Go.RowKit
open Go.Proofs.Qw
attribute [local go_sem] Oper.semAt_some
theorem mayL_facts {l : Lin} (h : mayL l = true) : 0 ≤ l.quote ∧ l.quote ≤ 6 ∧ l.lists.length ≤ 6 ∧ 0 ≤ l.kind ∧ l.kind ≤ 3 ∧ (l.lists = [] ∨ l.kind = 0) ∧ (∀ k ∈ l.lists, k = 0 ∨ k = 1) ∧ mayCs l.cells = true := by
 unfold mayL at h
 simp only [Bool.and_eq_true, Bool.or_eq_true, decide_eq_true_eq, List.all_eq_true] at h
 obtain ⟨⟨⟨⟨⟨⟨⟨h1, h2⟩, h3⟩, h4⟩, h5⟩, h6⟩, h7⟩, h8⟩ := h
 exact ⟨h1, h2, h3, h4, h5, h6, h7, h8⟩
theorem lastF_yes {l : Lin} (h : mayL l = true) (hne : l.lists ≠ []) : 0 ≤ lastF l.lists := by
 obtain ⟨_, _, _, _, _, _, h7, _⟩ := mayL_facts h
 unfold lastF
 rw [List.getLastD_eq_getLast?, List.getLast?_eq_some_getLast hne]
 rcases h7 _ (List.getLast_mem hne) with e | e <;> simp [e]
def TurnPost (B : Nat) (l : Lin) (la : Option Addr) (lc : Nat) (cv : Value) (w : World) (r : Option Lin) (e : Ending) (w' : World) : Prop :=
 e = .returned (.bool r.isSome) ∧ (∃ q k n c, w'.heap[B]? = some (.cells #[.int .i64 q, .slice la n c, .int .i64 k, cv] 42) ∧ ∀ l', r = some l' → l'.quote = q ∧ l'.kind = k ∧ l'.lists = l.lists.take n ∧ l'.cells = l.cells ∧ n ≤ l.lists.length ∧ n ≤ c ∧ c ≤ lc) ∧
  (∀ b, b < w.heap.size → b ≠ B → w'.heap[b]? = w.heap[b]?) ∧ w.heap.size ≤ w'.heap.size ∧ Below B w w'
theorem TurnPost.mk' {B : Nat} {l : Lin} {la : Option Addr} {lc : Nat} {cv : Value} {w w1 w' : World} {r : Option Lin} {e : Ending} (he : e = .returned (.bool r.isSome)) (hB : B < w.heap.size) (h1 : Below w.heap.size w w1) (ho : ∀ b, b ≠ B → w'.heap[b]? = w1.heap[b]?) (hs : w'.heap.size = w1.heap.size) (hb : Below B w1 w')
  (q k : Int) (n c : Nat) (hq : w'.heap[B]? = some (.cells #[.int .i64 q, .slice la n c, .int .i64 k, cv] 42)) (hl : ∀ l', r = some l' → l'.quote = q ∧ l'.kind = k ∧ l'.lists = l.lists.take n ∧ l'.cells = l.cells ∧ n ≤ l.lists.length ∧ n ≤ c ∧ c ≤ lc) : TurnPost B l la lc cv w r e w' :=
 ⟨he, ⟨q, k, n, c, hq, hl⟩, fun b hbz hne => (ho b hne).trans (h1.block b hbz), by rw [hs]; exact h1.size, (h1.mono (Nat.le_of_lt hB)).trans hb⟩
set_option maxHeartbeats 1000000 in
theorem outdent1_any (B : Nat) (l : Lin) (la : Option Addr) (lc : Nat) (cv : Value) (w : World) (S : Nat → Prop) (hm : mayL l = true) (h : IntsR false w S (.slice la l.lists.length lc) l.lists) (hB : w.heap[B]? = some (.cells #[.int .i64 l.quote, .slice la l.lists.length lc, .int .i64 l.kind, cv] 42)) :
  Calls Tryz.prog 185 #[.pointer (some ⟨B, 0, none⟩)] w (TurnPost B l la lc cv w (outdentL l)) := by
 have hBz : B < w.heap.size := (Array.getElem?_eq_some_iff.1 hB).1
 obtain ⟨hq0, hq6, _⟩ := mayL_facts hm
 have hlen := h.len
 by_cases hn : l.lists = []
 ·have HL := Lib.hid (lineLift_no B l.quote l.kind l.lists la lc cv w S h hB (by rw [hn]; decide))
  have HR : Hid (outdentL l = if 0 < l.quote then some { l with quote := l.quote - 1 } else none) := Lib.hid (by unfold outdentL; rw [if_neg (fun e => e hn)])
  have HB := Lib.hid hB
  have HN := Lib.hid hn
  have HE := Lib.hid hlen
  have w1 : IntKind.i64.wrap (l.quote - 1) = l.quote - 1 := IntWalk.i64_in _ (by omega)
  clear h hB hn hlen
  go_enter Tryz.func185, Tryz.ntmps185
  go_wp2_with (go_at_call 186; refine HL.out.mono ?_; rintro e w2 ⟨rfl, hb2, hh2⟩; have HW2 := Lib.hid (And.intro hb2 hh2); have HB2 : Hid (w2.heap[B]? = _) := Lib.hid (hh2 ▸ HB.out); clear hb2 hh2; obtain ⟨p0, f0⟩ := blk HB2.out)
  go_ret
  rw [HR.out]
  refine TurnPost.mk' ?_ hBz HW2.out.1 (fun b hb => by simp [heap_set, Ne.symm hb]) (by simp) (by exact Below.setCell (p := ⟨B, 0, none⟩) (Below.refl B _) (Nat.le_refl B) _) (l.quote - 1) l.kind l.lists.length lc (by simp [heap_set, putIn, HB2.out]) ?_
  ·split <;> simp <;> omega
  ·intro l' hl'
   split at hl'
   ·cases hl'
    exact ⟨rfl, rfl, by simp, rfl, Nat.le_refl _, HE.out.2.1, Nat.le_refl _⟩
   ·cases hl'
 ·have HL := Lib.hid (lineLift_yes B l.quote l.kind l.lists la lc cv w S h hB hn (lastF_yes hm hn))
  have HR : Hid (outdentL l = some { l with lists := l.lists.dropLast }) := Lib.hid (by unfold outdentL; rw [if_pos hn])
  have HB := Lib.hid hB
  have HE := Lib.hid hlen
  clear h hB hn hlen
  go_enter Tryz.func185, Tryz.ntmps185
  go_wp2_with (go_at_call 186; refine HL.out.mono ?_; rintro e w2 ⟨rfl, w3, hh3, hb3, rfl⟩; have HW3 := Lib.hid (And.intro hb3 hh3); clear hb3 hh3)
  go_ret
  rw [HR.out]
  refine TurnPost.mk' rfl hBz HW3.out.1 (fun b hb => by simp [heap_set, Ne.symm hb]) (by simp) (by exact Below.setCell (p := ⟨B, 1, none⟩) (Below.refl B _) (Nat.le_refl B) _) l.quote l.kind (l.lists.length - 1) (l.lists.length - 1) (by have := HW3.out.2 ▸ HB.out; simp [heap_set, putIn, this]) ?_
  intro l' hl'
  cases hl'
  exact ⟨rfl, rfl, by rw [List.dropLast_eq_take], rfl, by omega, Nat.le_refl _, by have := HE.out; omega⟩
set_option maxHeartbeats 1000000 in
theorem free1_any (B : Nat) (l : Lin) (la : Option Addr) (lc : Nat) (cv : Value) (w : World) (S : Nat → Prop) (hm : mayL l = true) (h : IntsR false w S (.slice la l.lists.length lc) l.lists) (hB : w.heap[B]? = some (.cells #[.int .i64 l.quote, .slice la l.lists.length lc, .int .i64 l.kind, cv] 42)) :
  Calls Tryz.prog 190 #[.pointer (some ⟨B, 0, none⟩)] w (TurnPost B l la lc cv w (freeL l)) := by
 have hBz : B < w.heap.size := (Array.getElem?_eq_some_iff.1 hB).1
 obtain ⟨hq0, hq6, _, hk0, hk3, _⟩ := mayL_facts hm
 have hlen := h.len
 by_cases hn : l.lists = []
 ·have HL := Lib.hid (lineLift_no B l.quote l.kind l.lists la lc cv w S h hB (by rw [hn]; decide))
  have HR : Hid (freeL l = if 0 < l.kind then some { l with kind := 0 } else if 0 < l.quote then some { l with quote := l.quote - 1 } else none) := Lib.hid (by unfold freeL; rw [if_neg (fun e => e hn)])
  have HB := Lib.hid hB
  have HN := Lib.hid hn
  have HE := Lib.hid hlen
  have w1 : IntKind.i64.wrap (l.quote - 1) = l.quote - 1 := IntWalk.i64_in _ (by omega)
  clear h hB hn hlen
  rcases (show (0 < l.kind) ∨ (¬ 0 < l.kind ∧ 0 < l.quote) ∨ (¬ 0 < l.kind ∧ ¬ 0 < l.quote) by omega) with hk | ⟨hk, hq⟩ | ⟨hk, hq⟩
  ·rw [if_pos hk] at HR
   go_enter Tryz.func190, Tryz.ntmps190
   go_wp2_with (go_at_call 186; refine HL.out.mono ?_; rintro e w2 ⟨rfl, hb2, hh2⟩; have HW2 := Lib.hid (And.intro hb2 hh2); have HB2 : Hid (w2.heap[B]? = _) := Lib.hid (hh2 ▸ HB.out); clear hb2 hh2; obtain ⟨p0, f0⟩ := blk HB2.out)
   go_ret
   rw [HR.out]
   refine TurnPost.mk' rfl hBz HW2.out.1 (fun b hb => by simp [heap_set, Ne.symm hb]) (by simp) (by exact Below.setCell (p := ⟨B, 2, none⟩) (Below.refl B _) (Nat.le_refl B) _) l.quote 0 l.lists.length lc (by simp [heap_set, putIn, HB2.out]) ?_
   intro l' hl'
   cases hl'
   exact ⟨rfl, rfl, by simp, rfl, Nat.le_refl _, HE.out.2.1, Nat.le_refl _⟩
  ·rw [if_neg hk, if_pos hq] at HR
   go_enter Tryz.func190, Tryz.ntmps190
   go_wp2_with (go_at_call 186; refine HL.out.mono ?_; rintro e w2 ⟨rfl, hb2, hh2⟩; have HW2 := Lib.hid (And.intro hb2 hh2); have HB2 : Hid (w2.heap[B]? = _) := Lib.hid (hh2 ▸ HB.out); clear hb2 hh2; obtain ⟨p0, f0⟩ := blk HB2.out)
   go_ret
   rw [HR.out]
   refine TurnPost.mk' rfl hBz HW2.out.1 (fun b hb => by simp [heap_set, Ne.symm hb]) (by simp) (by exact Below.setCell (p := ⟨B, 0, none⟩) (Below.refl B _) (Nat.le_refl B) _) (l.quote - 1) l.kind l.lists.length lc (by simp [heap_set, putIn, HB2.out]) ?_
   intro l' hl'
   cases hl'
   exact ⟨rfl, rfl, by simp, rfl, Nat.le_refl _, HE.out.2.1, Nat.le_refl _⟩
  ·rw [if_neg hk, if_neg hq] at HR
   go_enter Tryz.func190, Tryz.ntmps190
   go_wp2_with (go_at_call 186; refine HL.out.mono ?_; rintro e w2 ⟨rfl, hb2, hh2⟩; have HW2 := Lib.hid (And.intro hb2 hh2); have HB2 : Hid (w2.heap[B]? = _) := Lib.hid (hh2 ▸ HB.out); clear hb2 hh2; obtain ⟨p0, f0⟩ := blk HB2.out)
   go_ret
   rw [HR.out]
   refine TurnPost.mk' rfl hBz HW2.out.1 (fun b _ => rfl) rfl (Below.refl _ _) l.quote l.kind l.lists.length lc HB2.out ?_
   intro l' hl'
   cases hl'
 ·have HL := Lib.hid (lineLift_yes B l.quote l.kind l.lists la lc cv w S h hB hn (lastF_yes hm hn))
  have HR : Hid (freeL l = some { l with lists := l.lists.dropLast }) := Lib.hid (by unfold freeL; rw [if_pos hn])
  have HB := Lib.hid hB
  have HE := Lib.hid hlen
  clear h hB hn hlen
  go_enter Tryz.func190, Tryz.ntmps190
  go_wp2_with (go_at_call 186; refine HL.out.mono ?_; rintro e w2 ⟨rfl, w3, hh3, hb3, rfl⟩; have HW3 := Lib.hid (And.intro hb3 hh3); clear hb3 hh3)
  go_ret
  rw [HR.out]
  refine TurnPost.mk' rfl hBz HW3.out.1 (fun b hb => by simp [heap_set, Ne.symm hb]) (by simp) (by exact Below.setCell (p := ⟨B, 1, none⟩) (Below.refl B _) (Nat.le_refl B) _) l.quote l.kind (l.lists.length - 1) (l.lists.length - 1) (by have := HW3.out.2 ▸ HB.out; simp [heap_set, putIn, this]) ?_
  intro l' hl'
  cases hl'
  exact ⟨rfl, rfl, by rw [List.dropLast_eq_take], rfl, by omega, Nat.le_refl _, by have := HE.out; omega⟩
theorem results_lineE {fn : Func} {p u : Tmp} (h : fn.results = #[.cell p 42, .tmp u]) (tmps : Array Value) (w : World) (B : Nat) (x1 x2 x3 x4 : Value) (hp : tmps.getD p undef = .pointer (some ⟨B, 0, none⟩))
  (hB : w.heap[B]? = some (.cells #[x1, x2, x3, x4] 42)) :
  (results fn tmps).run Tryz.prog w = .ok (.tuple #[.agg #[x1, x2, x3, x4], tmps.getD u undef]) w := by
 have h1 := run_loadVar_row (P := Tryz.prog) w B 42 42 _ _ _ hB Tryz.underlying42 rfl (by kernel_rfl)
 have hp' : tmps[p]?.getD undef = .pointer (some ⟨B, 0, none⟩) := by simpa using hp
 simp [results, h, hp', asAddr, h1]
def TurnSaid (w : World) (r : Option Lin) (e : Ending) (w' : World) : Prop :=
 (∀ l', r = some l' → ∃ a' b', e = .returned (.tuple #[linV l' a' b', .int .i64 0]) ∧ IntsR true w' (fun b => w.heap.size ≤ b) a' l'.lists ∧ CelsR true w' (fun b => w.heap.size ≤ b) b' l'.cells) ∧
  (r = none → e = .returned (.tuple #[.agg #[.int .i64 0, .slice none 0 0, .int .i64 0, .slice none 0 0], .int .i64 7])) ∧ Below w.heap.size w w'
set_option maxRecDepth 100000 in
set_option maxHeartbeats 2000000 in
theorem turned_any (g : Nat) (T : Lin → Option Lin) (eg : ∀ args w, (callFunc g args).run Tryz.prog w = .ok (.enter g args) w)
  (HT : ∀ (B : Nat) (l : Lin) (la : Option Addr) (lc : Nat) (cv : Value) (w : World) (S : Nat → Prop), mayL l = true → IntsR false w S (.slice la l.lists.length lc) l.lists → w.heap[B]? = some (.cells #[.int .i64 l.quote, .slice la l.lists.length lc, .int .i64 l.kind, cv] 42) →
   Calls Tryz.prog g #[.pointer (some ⟨B, 0, none⟩)] w (TurnPost B l la lc cv w (T l)))
  (l : Lin) (la ca : Option Addr) (lc cc : Nat) (w w0 : World) (S : Nat → Prop) (hL : IntsR false w0 S (.slice la l.lists.length lc) l.lists) (hC : CelsR false w0 S (.slice ca l.cells.length cc) l.cells) (h0 : Below w0.heap.size w0 w)
  (he : EnvT w) (hs : l.lists.length ≤ 1000000 ∧ l.cells.length ≤ 1000000) (hh : ∀ c ∈ l.cells, c.href.length ≤ 1000000) (hm : mayL l = true) :
  Calls Tryz.prog 184 #[linV l (.slice la l.lists.length lc) (.slice ca l.cells.length cc), .func (.func g) #[] #[]] w (TurnSaid w (T l)) := by
 obtain ⟨W1, hW1, hB, hz, hA1, hA2⟩ := two_lines w (.int .i64 l.quote) (.slice la l.lists.length lc) (.int .i64 l.kind) (.slice ca l.cells.length cc) (.int .i64 0) (.slice none 0 0) (.int .i64 0) (.slice none 0 0)
 have h01 : Below w0.heap.size w0 W1 := below_from h0 hB
 have HM := Lib.hid (lineMay_any l la ca lc cc W1 w0 S hL hC (he.below hB) h01 hh)
 rw [hm] at HM
 have HO : Hid (∀ W, Below w0.heap.size w0 W → Calls Tryz.prog 181 #[linV l (.slice la l.lists.length lc) (.slice ca l.cells.length cc)] W fun e w' => ∃ a' b', e = .returned (linV l a' b') ∧ IntsR true w' (fun b => W.heap.size ≤ b) a' l.lists ∧ CelsR true w' (fun b => W.heap.size ≤ b) b' l.cells ∧ Below W.heap.size W w') := Lib.hid fun W hW => lineOwn_any l _ _ false false W w0 S hL hC hW hs
 have HG : Hid (∀ (B : Nat) (la : Option Addr) (lc : Nat) (cv : Value) (w : World) (S : Nat → Prop), IntsR false w S (.slice la l.lists.length lc) l.lists → w.heap[B]? = some (.cells #[.int .i64 l.quote, .slice la l.lists.length lc, .int .i64 l.kind, cv] 42) → Calls Tryz.prog g #[.pointer (some ⟨B, 0, none⟩)] w (TurnPost B l la lc cv w (T l))) := Lib.hid fun B la lc cv w S h1 h2 => HT B l la lc cv w S hm h1 h2
 have hs1 := hB.size
 have HB0 : Hid (∀ W, Below W1.heap.size W1 W → W.heap[w.heap.size]? = some (.cells #[.int .i64 l.quote, .slice la l.lists.length lc, .int .i64 l.kind, .slice ca l.cells.length cc] 42) ∧ W.heap[w.heap.size + 1]? = some (.cells #[.int .i64 0, .slice none 0 0, .int .i64 0, .slice none 0 0] 42)) := Lib.hid fun W hW => ⟨heap_below hW hA1, heap_below hW hA2⟩
 have H1 := Lib.hid hB
 have H01 := Lib.hid h01
 obtain ⟨p1, f1⟩ := blk hA1
 obtain ⟨p2, f2⟩ := blk hA2
 obtain ⟨r, hr⟩ : ∃ r, T l = r := ⟨_, rfl⟩
 rw [hr] at HG ⊢
 clear hL hC hs hB h0 HT hr hm he h01
 unfold linV at HO ⊢
 go_enter Tryz.func184, Tryz.ntmps184
 go_wp2_with (first | (go_at_call 160; refine HM.out.mono ?_; rintro e w2 ⟨rfl, hb2⟩; obtain ⟨hA3, hA4⟩ := HB0.out _ hb2; obtain ⟨q0, g0⟩ := blk hA3; obtain ⟨q1, g1⟩ := blk hA4) | (go_at_call 181; refine (HO.out _ (below_from H01.out hb2)).mono ?_; rintro e w3 ⟨a', b', rfl, ha', hb', hb3⟩; obtain ⟨a1, c1, rfl⟩ := ha'.slice; obtain ⟨a2, c2, rfl⟩ := hb'.slice; obtain ⟨hA5, hA6⟩ := HB0.out _ (below_from hb2 hb3); obtain ⟨p3, f3⟩ := blk hA5; obtain ⟨p4, f4⟩ := blk hA6))
 obtain ⟨Y, hY, hYB, hYs, hYo, hYb⟩ := set_four w3 w.heap.size 42 _ _ _ _ (.int .i64 l.quote) (.slice a1 l.lists.length c1) (.int .i64 l.kind) (.slice a2 l.cells.length c2) hA5
 have hx2 := below_from H1.out hb2
 have hx3 : Below w.heap.size w w3 := below_from hx2 hb3
 have hn3 : w.heap.size + 2 ≤ w2.heap.size := by have := hb2.size; omega
 have hle3 := hb3.size
 have hiY : IntsR true Y (fun b => w2.heap.size ≤ b) (.slice a1 l.lists.length c1) l.lists := SliceR.stable (rdOf_stable _) ha' (Keeps.only hYs hYo (by simp; omega)) (fun b h _ => h)
 have hcY : CelsR true Y (fun b => w2.heap.size ≤ b) (.slice a2 l.cells.length c2) l.cells := SliceR.stable (rdOf_stable _) hb' (Keeps.only hYs hYo (by simp; omega)) (fun b h _ => h)
 have hcl := hiY.len
 rw [hY]
 have hA7 : Y.heap[w.heap.size + 1]? = some (.cells #[.int .i64 0, .slice none 0 0, .int .i64 0, .slice none 0 0] 42) := (hYo _ (by omega)).trans hA6
 refine (HG.out w.heap.size a1 c1 (.slice a2 l.cells.length c2) Y (fun b => w2.heap.size ≤ b) (SliceR.read (fun _ _ h => h) hiY) hYB).mono ?_
 rintro e w4 ⟨rfl, ⟨q, k, n, c, h4, hl4⟩, ho4, hz4, hb4⟩
 have hA8 := (ho4 (w.heap.size + 1) (by omega) (by omega)).trans hA7
 have hi4 : IntsR true w4 (fun b => w2.heap.size ≤ b) (.slice a1 l.lists.length c1) l.lists := SliceR.stable (rdOf_stable _) hiY ⟨hz4, fun b hb hz => ho4 b hz (by omega)⟩ (fun b h _ => h)
 have hc4 : CelsR true w4 (fun b => w2.heap.size ≤ b) (.slice a2 l.cells.length c2) l.cells := SliceR.stable (rdOf_stable _) hcY ⟨hz4, fun b hb hz => ho4 b hz (by omega)⟩ (fun b h _ => h)
 have hx4 : Below w.heap.size w w4 := (hYb _ (Nat.le_refl _) w hx3).trans hb4
 have HI := Lib.hid hi4
 have HCC := Lib.hid hc4
 have HX4 := Lib.hid hx4
 clear hi4 hc4 hx4 hiY hcY hYB hYo hYb ha' hb' ho4 hb4 HG HO HM hx2 hx3
 obtain ⟨p5, f5⟩ := blk h4
 obtain ⟨p6, f6⟩ := blk hA8
 clear p1 f1 p2 f2 q0 g0 q1 g1 p3 f3 p4 f4 hY
 cases r with
 | none =>
  go_wp2_with fail
  refine bodyPost_ret (results_lineE rfl _ _ (w.heap.size + 1) (.int .i64 0) (.slice none 0 0) (.int .i64 0) (.slice none 0 0) rfl (by simp [heap_set, putIn, hA8])) rfl ?_
  refine ⟨fun l' h => (by cases h), fun _ => rfl, ?_⟩
  have := HX4.out
  (repeat' (first | (with_reducible exact Below.refl _ _) | (with_reducible assumption) | (with_reducible refine Below.alloc ?_ ?_ _) | (with_reducible refine Below.drew ?_) | (with_reducible refine drewN_below ?_) | (with_reducible refine Below.setCell ?_ ?_ _) | go_size))
 | some l' =>
  obtain ⟨rfl, rfl, e3, e4, e5, e6, e7⟩ := hl4 l' rfl
  have HE := Lib.hid (And.intro e3 e4)
  clear hl4 e3 e4
  go_wp2_with fail
  refine bodyPost_ret (results_lineE rfl _ _ (w.heap.size + 1) (.int .i64 l'.quote) (.slice a1 n c) (.int .i64 l'.kind) (.slice a2 l.cells.length c2) rfl (by simp [heap_set, putIn, hA8])) rfl ?_
  refine ⟨fun l'' h => ?_, fun h => (by cases h), ?_⟩
  ·cases h
   refine ⟨_, _, rfl, ?_, ?_⟩
   ·rw [HE.out.1]
    have hh := SliceR.caps (HI.out.take e5) (m := c) (by rw [List.length_take]; omega) e7
    exact (SliceR.stable (rdOf_stable _) hh (by (repeat' (first | (with_reducible exact Keeps.refl _ _) | (with_reducible refine Keeps.set ?_ ?_ _) | (with_reducible refine Keeps.alloc ?_ _) | (with_reducible refine Keeps.drew ?_) | (first | fail) | (simp; omega)))) (fun b h _ => (by have h' := h; (try simp at h'); omega)))
   ·rw [HE.out.2]
    have hh := HCC.out
    exact (SliceR.stable (rdOf_stable _) hh (by (repeat' (first | (with_reducible exact Keeps.refl _ _) | (with_reducible refine Keeps.set ?_ ?_ _) | (with_reducible refine Keeps.alloc ?_ _) | (with_reducible refine Keeps.drew ?_) | (first | fail) | (simp; omega)))) (fun b h _ => (by have h' := h; (try simp at h'); omega)))
  ·have := HX4.out
   (repeat' (first | (with_reducible exact Below.refl _ _) | (with_reducible assumption) | (with_reducible refine Below.alloc ?_ ?_ _) | (with_reducible refine Below.drew ?_) | (with_reducible refine drewN_below ?_) | (with_reducible refine Below.setCell ?_ ?_ _) | go_size))
set_option maxHeartbeats 1000000 in
theorem lineOutdent_any (l : Lin) (la ca : Option Addr) (lc cc : Nat) (w w0 : World) (S : Nat → Prop) (hL : IntsR false w0 S (.slice la l.lists.length lc) l.lists) (hC : CelsR false w0 S (.slice ca l.cells.length cc) l.cells) (h0 : Below w0.heap.size w0 w)
  (he : EnvT w) (hs : l.lists.length ≤ 1000000 ∧ l.cells.length ≤ 1000000) (hh : ∀ c ∈ l.cells, c.href.length ≤ 1000000) (hm : mayL l = true) :
  Calls Tryz.prog 114 #[linV l (.slice la l.lists.length lc) (.slice ca l.cells.length cc)] w (TurnSaid w (outdentL l)) := by
 obtain ⟨W1, hW1, hB, hz, hA1, hA2⟩ := two_lines w (.int .i64 l.quote) (.slice la l.lists.length lc) (.int .i64 l.kind) (.slice ca l.cells.length cc) (.int .i64 0) (.slice none 0 0) (.int .i64 0) (.slice none 0 0)
 have HT := Lib.hid (turned_any 185 outdentL (enters_of Tryz.func185 (by kernel_rfl) rfl) outdent1_any l la ca lc cc W1 w0 S hL hC (below_from h0 hB) (he.below hB) hs hh hm)
 have hs1 := hB.size
 have HB0 : Hid (∀ W, Below W1.heap.size W1 W → W.heap[w.heap.size]? = some (.cells #[.int .i64 l.quote, .slice la l.lists.length lc, .int .i64 l.kind, .slice ca l.cells.length cc] 42) ∧ W.heap[w.heap.size + 1]? = some (.cells #[.int .i64 0, .slice none 0 0, .int .i64 0, .slice none 0 0] 42)) := Lib.hid fun W hW => ⟨heap_below hW hA1, heap_below hW hA2⟩
 have H1 := Lib.hid hB
 obtain ⟨p1, f1⟩ := blk hA1
 obtain ⟨p2, f2⟩ := blk hA2
 obtain ⟨r, hr⟩ : ∃ r, outdentL l = r := ⟨_, rfl⟩
 rw [hr] at HT ⊢
 clear hL hC hs hB h0 hr hm he
 unfold linV at HT ⊢
 cases r with
 | none =>
  go_enter Tryz.func114, Tryz.ntmps114
  go_wp2_with (go_at_call 184; refine HT.out.mono ?_; rintro e w2 ⟨_, he2, hb2⟩; obtain rfl := he2 rfl; obtain ⟨hA3, hA4⟩ := HB0.out _ hb2; obtain ⟨q0, g0⟩ := blk hA3; obtain ⟨q1, g1⟩ := blk hA4)
  refine bodyPost_ret (results_lineE rfl _ _ (w.heap.size + 1) (.int .i64 0) (.slice none 0 0) (.int .i64 0) (.slice none 0 0) rfl (by simp [heap_set, putIn, hA4])) rfl ?_
  refine ⟨fun l' h => (by cases h), fun _ => rfl, ?_⟩
  have := H1.out.trans (hb2.mono hs1)
  (repeat' (first | (with_reducible exact Below.refl _ _) | (with_reducible assumption) | (with_reducible refine Below.alloc ?_ ?_ _) | (with_reducible refine Below.drew ?_) | (with_reducible refine drewN_below ?_) | (with_reducible refine Below.setCell ?_ ?_ _) | go_size))
 | some l' =>
  go_enter Tryz.func114, Tryz.ntmps114
  go_wp2_with (go_at_call 184; refine HT.out.mono ?_; rintro e w2 ⟨he2, _, hb2⟩; obtain ⟨a', b', rfl, ha', hb'⟩ := he2 _ rfl; obtain ⟨a1, c1, rfl⟩ := ha'.slice; obtain ⟨a2, c2, rfl⟩ := hb'.slice; obtain ⟨hA3, hA4⟩ := HB0.out _ hb2; obtain ⟨q0, g0⟩ := blk hA3; obtain ⟨q1, g1⟩ := blk hA4)
  refine bodyPost_ret (results_lineE rfl _ _ (w.heap.size + 1) (.int .i64 l'.quote) (.slice a1 l'.lists.length c1) (.int .i64 l'.kind) (.slice a2 l'.cells.length c2) rfl (by simp [heap_set, putIn, hA4])) rfl ?_
  refine ⟨fun l'' h => ?_, fun h => (by cases h), ?_⟩
  ·cases h
   exact ⟨_, _, rfl, (SliceR.stable (rdOf_stable _) ha' (by (repeat' (first | (with_reducible exact Keeps.refl _ _) | (with_reducible refine Keeps.set ?_ ?_ _) | (with_reducible refine Keeps.alloc ?_ _) | (with_reducible refine Keeps.drew ?_) | (first | fail) | (simp; omega)))) (fun b h _ => (by have h' := h; (try simp at h'); omega))), (SliceR.stable (rdOf_stable _) hb' (by (repeat' (first | (with_reducible exact Keeps.refl _ _) | (with_reducible refine Keeps.set ?_ ?_ _) | (with_reducible refine Keeps.alloc ?_ _) | (with_reducible refine Keeps.drew ?_) | (first | fail) | (simp; omega)))) (fun b h _ => (by have h' := h; (try simp at h'); omega)))⟩
  ·have := H1.out.trans (hb2.mono hs1)
   (repeat' (first | (with_reducible exact Below.refl _ _) | (with_reducible assumption) | (with_reducible refine Below.alloc ?_ ?_ _) | (with_reducible refine Below.drew ?_) | (with_reducible refine drewN_below ?_) | (with_reducible refine Below.setCell ?_ ?_ _) | go_size))
set_option maxHeartbeats 1000000 in
theorem lineFree_any (l : Lin) (la ca : Option Addr) (lc cc : Nat) (w w0 : World) (S : Nat → Prop) (hL : IntsR false w0 S (.slice la l.lists.length lc) l.lists) (hC : CelsR false w0 S (.slice ca l.cells.length cc) l.cells) (h0 : Below w0.heap.size w0 w)
  (he : EnvT w) (hs : l.lists.length ≤ 1000000 ∧ l.cells.length ≤ 1000000) (hh : ∀ c ∈ l.cells, c.href.length ≤ 1000000) (hm : mayL l = true) :
  Calls Tryz.prog 120 #[linV l (.slice la l.lists.length lc) (.slice ca l.cells.length cc)] w (TurnSaid w (freeL l)) := by
 obtain ⟨W1, hW1, hB, hz, hA1, hA2⟩ := two_lines w (.int .i64 l.quote) (.slice la l.lists.length lc) (.int .i64 l.kind) (.slice ca l.cells.length cc) (.int .i64 0) (.slice none 0 0) (.int .i64 0) (.slice none 0 0)
 have HT := Lib.hid (turned_any 190 freeL (enters_of Tryz.func190 (by kernel_rfl) rfl) free1_any l la ca lc cc W1 w0 S hL hC (below_from h0 hB) (he.below hB) hs hh hm)
 have hs1 := hB.size
 have HB0 : Hid (∀ W, Below W1.heap.size W1 W → W.heap[w.heap.size]? = some (.cells #[.int .i64 l.quote, .slice la l.lists.length lc, .int .i64 l.kind, .slice ca l.cells.length cc] 42) ∧ W.heap[w.heap.size + 1]? = some (.cells #[.int .i64 0, .slice none 0 0, .int .i64 0, .slice none 0 0] 42)) := Lib.hid fun W hW => ⟨heap_below hW hA1, heap_below hW hA2⟩
 have H1 := Lib.hid hB
 obtain ⟨p1, f1⟩ := blk hA1
 obtain ⟨p2, f2⟩ := blk hA2
 obtain ⟨r, hr⟩ : ∃ r, freeL l = r := ⟨_, rfl⟩
 rw [hr] at HT ⊢
 clear hL hC hs hB h0 hr hm he
 unfold linV at HT ⊢
 cases r with
 | none =>
  go_enter Tryz.func120, Tryz.ntmps120
  go_wp2_with (go_at_call 184; refine HT.out.mono ?_; rintro e w2 ⟨_, he2, hb2⟩; obtain rfl := he2 rfl; obtain ⟨hA3, hA4⟩ := HB0.out _ hb2; obtain ⟨q0, g0⟩ := blk hA3; obtain ⟨q1, g1⟩ := blk hA4)
  refine bodyPost_ret (results_lineE rfl _ _ (w.heap.size + 1) (.int .i64 0) (.slice none 0 0) (.int .i64 0) (.slice none 0 0) rfl (by simp [heap_set, putIn, hA4])) rfl ?_
  refine ⟨fun l' h => (by cases h), fun _ => rfl, ?_⟩
  have := H1.out.trans (hb2.mono hs1)
  (repeat' (first | (with_reducible exact Below.refl _ _) | (with_reducible assumption) | (with_reducible refine Below.alloc ?_ ?_ _) | (with_reducible refine Below.drew ?_) | (with_reducible refine drewN_below ?_) | (with_reducible refine Below.setCell ?_ ?_ _) | go_size))
 | some l' =>
  go_enter Tryz.func120, Tryz.ntmps120
  go_wp2_with (go_at_call 184; refine HT.out.mono ?_; rintro e w2 ⟨he2, _, hb2⟩; obtain ⟨a', b', rfl, ha', hb'⟩ := he2 _ rfl; obtain ⟨a1, c1, rfl⟩ := ha'.slice; obtain ⟨a2, c2, rfl⟩ := hb'.slice; obtain ⟨hA3, hA4⟩ := HB0.out _ hb2; obtain ⟨q0, g0⟩ := blk hA3; obtain ⟨q1, g1⟩ := blk hA4)
  refine bodyPost_ret (results_lineE rfl _ _ (w.heap.size + 1) (.int .i64 l'.quote) (.slice a1 l'.lists.length c1) (.int .i64 l'.kind) (.slice a2 l'.cells.length c2) rfl (by simp [heap_set, putIn, hA4])) rfl ?_
  refine ⟨fun l'' h => ?_, fun h => (by cases h), ?_⟩
  ·cases h
   exact ⟨_, _, rfl, (SliceR.stable (rdOf_stable _) ha' (by (repeat' (first | (with_reducible exact Keeps.refl _ _) | (with_reducible refine Keeps.set ?_ ?_ _) | (with_reducible refine Keeps.alloc ?_ _) | (with_reducible refine Keeps.drew ?_) | (first | fail) | (simp; omega)))) (fun b h _ => (by have h' := h; (try simp at h'); omega))), (SliceR.stable (rdOf_stable _) hb' (by (repeat' (first | (with_reducible exact Keeps.refl _ _) | (with_reducible refine Keeps.set ?_ ?_ _) | (with_reducible refine Keeps.alloc ?_ _) | (with_reducible refine Keeps.drew ?_) | (first | fail) | (simp; omega)))) (fun b h _ => (by have h' := h; (try simp at h'); omega)))⟩
  ·have := H1.out.trans (hb2.mono hs1)
   (repeat' (first | (with_reducible exact Below.refl _ _) | (with_reducible assumption) | (with_reducible refine Below.alloc ?_ ?_ _) | (with_reducible refine Below.drew ?_) | (with_reducible refine drewN_below ?_) | (with_reducible refine Below.setCell ?_ ?_ _) | go_size))
end Go.Proofs.YtpndnbjpnajaaaaGreatDoor
namespace Go.Proofs.YtpndnbjpnajaaaaGreatDoor
open Go.RowKit
open Go.Proofs.Qw
def insertC (cs : List Cel) (p : Nat) (more : List Cel) : List Cel := cs.take p ++ more ++ cs.drop p
theorem cels_from {w : World} {S : Nat → Prop} {a : Option Addr} {n c p : Nat} {xs : List Cel} (h : CelsR false w S (.slice a n c) xs) (hp : p ≤ xs.length) :
  ∃ X, CelsR false w S (.slice X (xs.length - p) (c - p)) (xs.drop p) ∧ ((c = p ∧ a = X) ∨ (¬ c = p ∧ a.map (·.add (p * 3)) = X)) := by
 obtain ⟨_, h2, h3⟩ := h.len
 have := SliceR.part h (i := p) (j := xs.length) (m := c) hp (Nat.le_refl _) h2 (Nat.le_refl _)
 rw [List.take_of_length_le (by rw [List.length_drop]; omega)] at this
 by_cases hcp : c = p
 ·exact ⟨a, by simpa only [sliced, if_pos hcp] using this, .inl ⟨hcp, rfl⟩⟩
 ·exact ⟨_, by simpa only [sliced, if_neg hcp] using this, .inr ⟨hcp, rfl⟩⟩
set_option maxRecDepth 100000 in
set_option maxHeartbeats 4000000 in
theorem cellsInsert_any (ca vb : Option Addr) (cc vc p : Nat) (cs more : List Cel) (w w0 w1 : World) (S S2 : Nat → Prop) (o1 o2 : Bool) (h' : CelsR o1 w0 S (.slice ca cs.length cc) cs) (hm' : CelsR o2 w1 S2 (.slice vb more.length vc) more)
  (h0 : Below w0.heap.size w0 w) (h1 : Below w1.heap.size w1 w) (hp : p ≤ cs.length) (hs : cs.length ≤ 1000000) (hs2 : more.length ≤ 1000000) :
  Calls Tryz.prog 195 #[.slice ca cs.length cc, .int .i64 p, .slice vb more.length vc] w (CellsSaid (insertC cs p more) 0 w) := by
 have h : CelsR false w (fun _ => True) (.slice ca cs.length cc) cs := SliceR.stable (rdOf_stable _) (SliceR.read (fun _ _ h => h) h') (.all h0) (fun _ _ _ => trivial)
 have hm : CelsR false w (fun _ => True) (.slice vb more.length vc) more := SliceR.stable (rdOf_stable _) (SliceR.read (fun _ _ h => h) hm') (.all h1) (fun _ _ _ => trivial)
 have HC1 := Lib.hid (cellsSpan_any _ cs p p w (fun _ => True) false h)
 have hsp : spanC cs.length p p = true := by unfold spanC; simp; omega
 rw [hsp] at HC1
 obtain ⟨_, hccl, hccm⟩ := h.len
 obtain ⟨X, hX, hcq⟩ := cels_from h hp
 have hHC : ∀ W, Below w.heap.size w W → ∀ g, W.heap[g]? = some (.cells #[.slice ca p cc, .slice vb more.length vc, .slice X (cs.length - p) (cc - p)] 40) → Calls Tryz.prog 193 #[.slice (some ⟨g, 0, none⟩) 3 3] W fun e w' => ∃ v', e = .returned v' ∧ CelsR true w' (fun b => W.heap.size ≤ b) v' (insertC cs p more) ∧ Below W.heap.size W w' := by
  intro W hW g hg
  have ha := (SliceR.below (rdOf_stable _) h hW).take (i := p) hp
  have hb := SliceR.below (rdOf_stable _) hm hW
  have hc := SliceR.below (rdOf_stable _) hX hW
  have := concatCell_any g 3 #[.slice ca p cc, .slice vb more.length vc, .slice X (cs.length - p) (cc - p)] [cs.take p, more, cs.drop p] W (fun _ => True) hg (fun k xs hk => by
   match k, hk with
   | 0, hk => cases hk; exact ⟨_, rfl, ha⟩
   | 1, hk => cases hk; exact ⟨_, rfl, hb⟩
   | 2, hk => cases hk; exact ⟨_, rfl, hc⟩) (by simp [lens]; omega) (by simp) rfl
  simpa [insertC] using this
 have HC := Lib.hid hHC
 have hBd : ∀ X, Below w.heap.size w (w.alloc X).drew := fun X => ((Below.refl _ _).alloc (Nat.le_refl _) X).drew
 unfold maxLen at hccm
 have u0 : (0 : Int) ≤ (p : Int) := Int.natCast_nonneg _
 have u1 : (p : Int) ≤ (cc : Int) := by omega
 have u2 : (p : Int) ≤ (cs.length : Int) := by omega
 clear h hm h' hm' hX hHC hsp
 rcases hcq with ⟨rfl, rfl⟩ | ⟨hcq, rfl⟩
 ·rw [Nat.sub_self, show cs.length - cc = 0 by omega] at HC
  go_enter Tryz.func195, Tryz.ntmps195
  go_wp2_with (go_at_call 200; refine HC1.out.mono ?_; rintro e w2 ⟨rfl, rfl⟩)
  go_region_held3 (fun _ => True) (trivial) ((go_at_call 193; refine (HC.out _ (hBd _) _ (heap_new _ _ rfl)).mono ?_; rintro e w5 ⟨v5, rfl, hv5, hb5⟩; obtain ⟨a5, c5, hv5e⟩ := hv5.slice; subst hv5e))
  go_wp2_with fail
  go_ret2
  exact ⟨_, rfl, SliceR.stable (rdOf_stable _) hv5 (Keeps.refl _ _) (fun b h _ => Nat.le_trans (hBd _).size h), below_from (hBd _) hb5⟩
 ·skip
  go_enter Tryz.func195, Tryz.ntmps195
  go_wp2_with (go_at_call 200; refine HC1.out.mono ?_; rintro e w2 ⟨rfl, rfl⟩)
  go_region_held3 (fun _ => True) (trivial) ((go_at_call 193; refine (HC.out _ (hBd _) _ (heap_new _ _ rfl)).mono ?_; rintro e w5 ⟨v5, rfl, hv5, hb5⟩; obtain ⟨a5, c5, hv5e⟩ := hv5.slice; subst hv5e))
  go_wp2_with fail
  go_ret2
  exact ⟨_, rfl, SliceR.stable (rdOf_stable _) hv5 (Keeps.refl _ _) (fun b h _ => Nat.le_trans (hBd _).size h), below_from (hBd _) hb5⟩
end Go.Proofs.YtpndnbjpnajaaaaGreatDoor
