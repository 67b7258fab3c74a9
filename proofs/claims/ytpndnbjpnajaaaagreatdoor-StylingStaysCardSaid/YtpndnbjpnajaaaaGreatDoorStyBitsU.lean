/- A keeper for loops over a function that keeps memory of its own: whatever lies from 'base' on stays, but for the row that the body appends to. -/
import Derived.Test.YtpndnbjpnajaaaaGreatDoorDocPartU
import Derived.Test.YtpndnbjpnajaaaaGreatDoorDocEachU
import Derived.Deep.Cut
import Derived.Deep.CutRange
import Derived.Test.YtpndnbjpnajaaaaGreatDoorAttrWalkU
import Derived.Test.YtpndnbjpnajaaaaGreatDoorOpenMoreU
set_option linter.unusedVariables false
set_option linter.unusedSimpArgs false
namespace Go.Proofs.YtpndnbjpnajaaaaGreatDoor
open Go.RowKit
open Go.Proofs.Qw
attribute [local go_sem] Oper.semAt_some
def ownAt (Bs : Nat) (W : World) : Option Nat := (W.cell? ⟨Bs, 0, none⟩).bind Value.ownBlock
structure Kd (n₀ base Bs : Nat) (W W' : World) : Prop where
 below : Below n₀ W W'
 cells : ∀ k o, base ≤ k → W.heap[k]? = some o → o.isCells = true → ownAt Bs W ≠ some k → W'.heap[k]? = some o
 own : ownAt Bs W' = ownAt Bs W ∨ ∃ j, ownAt Bs W' = some j ∧ W.heap.size ≤ j
theorem Kd.t {n₀ base Bs : Nat} {A B C : World} (h : Kd n₀ base Bs A B) (k : Kd n₀ base Bs B C) : Kd n₀ base Bs A C := by
 refine ⟨h.below.trans k.below, fun i o hi ho hc hn => k.cells i o hi (h.cells i o hi ho hc hn) hc ?_, ?_⟩
 ·rcases h.own with e | ⟨j, e, hj⟩
  ·rw [e]; exact hn
  ·rw [e]
   intro e2
   cases e2
   have := (Array.getElem?_eq_some_iff.1 ho).1
   omega
 ·rcases k.own with e | ⟨j, e, hj⟩
  ·rw [e]; exact h.own
  ·exact .inr ⟨j, e, Nat.le_trans h.below.size hj⟩
theorem Kd.of_below {n₀ base Bs : Nat} {W W' : World} (hn : n₀ ≤ W.heap.size) (hs : Bs < W.heap.size) (hb : Below W.heap.size W W') : Kd n₀ base Bs W W' :=
 ⟨hb.mono hn, fun k _ _ hk _ _ => (hb.block k (Array.getElem?_eq_some_iff.1 hk).1).trans hk, .inl (by unfold ownAt; rw [hb.cell (p := ⟨Bs, 0, none⟩) hs])⟩
theorem Kd.b {n₀ base Bs : Nat} {w : World} (hn : n₀ ≤ w.heap.size) (hs : Bs < w.heap.size) (W : World) (l : Nat) (o o' : Obj) (hl : w.heap.size ≤ l) (h : W.heap[l]? = some o) (hc : o.isCells = false) (hw : o.isWalk = false) : Kd n₀ base Bs W (W.putObj l o') :=
 ⟨belowK_b hn W l o o' hl h hc hw, fun k u _ hk hu _ => by
  rw [World.putObj_heap_other (fun e => by subst e; rw [h] at hk; cases hk; rw [hc] at hu; cases hu)]; exact hk, .inl (by
  unfold ownAt
  rw [World.cell?_of_block (World.putObj_heap_other (by show Bs ≠ l; omega))])⟩
theorem Kd.setCell {n₀ base Bs : Nat} (W : World) {B o : Nat} (h1 : n₀ ≤ B) (h2 : B < base) (h3 : B ≠ Bs) (v : Value) : Kd n₀ base Bs W (W.setCell ⟨B, o, none⟩ v) :=
 ⟨(Below.refl _ _).setCell h1 _, fun k u hk h _ _ => by rw [Below.heap_setCell _ _ _ _ (by simp; omega)]; exact h, .inl (by
  unfold ownAt
  rw [World.cell?_of_block (Below.heap_setCell _ _ _ _ (by simp; omega))])⟩
theorem Kd.append {n₀ base Bs : Nat} {w w' : World} {v v' : Value} (h : w.heap[Bs]? = some (.cells #[v] 40)) (hne : v.ownBlock ≠ some Bs) (hg : w.grownBy w' v.ownBlock) (hb : Below n₀ w w') (hv : v'.ownBlock = v.ownBlock ∨ v'.ownBlock = some w.heap.size) (h1 : n₀ ≤ Bs) (h2 : Bs < base) : Kd n₀ base Bs w (w'.setCell ⟨Bs, 0, none⟩ v') := by
 have hlt := (Array.getElem?_eq_some_iff.1 h).1
 have h' : w'.heap[Bs]? = some (.cells #[v] 40) := (hg.block Bs hlt (fun e => hne e.symm)).trans h
 have o1 : ownAt Bs w = v.ownBlock := by unfold ownAt; rw [cell_of_heap h]; rfl
 have o2 : ownAt Bs (w'.setCell ⟨Bs, 0, none⟩ v') = v'.ownBlock := by unfold ownAt; rw [cell_of_heap (setCell_heap h' v')]; rfl
 refine ⟨hb.setCell h1 _, fun k o hk ho _ hn => ?_, ?_⟩
 ·rw [Below.heap_setCell _ _ _ _ (by simp; omega)]
  exact (hg.block k (Array.getElem?_eq_some_iff.1 ho).1 (fun e => hn (o1.trans e.symm))).trans ho
 ·rw [o1, o2]
  rcases hv with e | e
  ·exact .inl e
  ·exact .inr ⟨_, e, Nat.le_refl _⟩
theorem cell_cells {w : World} {b o : Nat} {u : Value} (h : w.cell? ⟨b, o, none⟩ = some u) : ∃ ob, w.heap[b]? = some ob ∧ ob.isCells = true := by
 unfold World.cell? at h
 split at h
 ·rename_i c t f e
  exact ⟨_, e, rfl⟩
 ·cases h
structure KC (W2 : World) (Z Bs n₀ : Nat) (w0 wr : World) : Prop where
 cell : ∀ b o u, Z ≤ b → b < W2.heap.size → W2.cell? ⟨b, o, none⟩ = some u → wr.cell? ⟨b, o, none⟩ = some u
 own : ∀ k, ownAt Bs wr = some k → W2.heap.size ≤ k
 size : W2.heap.size ≤ wr.heap.size
 below : Below n₀ w0 wr
theorem KC.go {W2 : World} {Z Bs n₀ base : Nat} {w0 wr wr' : World} (h : KC W2 Z Bs n₀ w0 wr) (hz : base ≤ Z) (k : Kd n₀ base Bs wr wr') : KC W2 Z Bs n₀ w0 wr' := by
 refine ⟨fun b o u h1 h2 h3 => ?_, fun j hj => ?_, Nat.le_trans h.size k.below.size, h.below.trans k.below⟩
 ·have hc := h.cell b o u h1 h2 h3
  obtain ⟨ob, e1, e2⟩ := cell_cells hc
  have e3 := k.cells b ob (Nat.le_trans hz h1) e1 e2 (fun e => by have := h.own b e; omega)
  rw [World.cell?_of_block (w := wr) (e3.trans e1.symm)]
  exact hc
 ·rcases k.own with e | ⟨i, e, hi⟩
  ·exact h.own j (e.symm.trans hj)
  ·rw [e] at hj
   cases hj
   exact Nat.le_trans h.size hi
theorem KC.start {W2 : World} {Z Bs n₀ : Nat} {w0 : World} (hb : Below n₀ w0 W2) (ho : ownAt Bs W2 = none) : KC W2 Z Bs n₀ w0 W2 :=
 ⟨fun _ _ _ _ _ h => h, fun k hk => (by rw [ho] at hk; cases hk), Nat.le_refl _, hb⟩
theorem rangeFunc_boxD {P : Program} {F : Fence} {n : Nat} {α : Type} {g : Operand} {ps : Array Tmp} {assign body : Code} {Q : Exit → Act → World → Prop} {a : Act} {w : World}
  (hro : F.round = none) (h1 : 1 ≤ n) {gf : Nat} {lb : Array Value} (hg : a.eval g = .func (.func gf) #[] lb) (hFg : F.fn gf) (eg : ∀ args w, (callFunc gf args).run P w = .ok (.enter gf args) w)
  {encs : α → Array Value} {n₀ base Bs : Nat} {S Sp : List α → Prop} {N : Nat} {w0 : World} (hseq : SeqStopsK F (n - 1) P gf lb encs (Kd n₀ base Bs) S Sp N w0)
  (hn : n₀ ≤ w.heap.size) (hBs : Bs < w.heap.size) (hb0 : Below w0.heap.size w0 w) (hps : ∀ x, (encs x).size = ps.size)
  (I : List α → World → Prop) (Ix : Code → List α → World → Prop) (hI : OwnFrom w.heap.size I) (hIx : ∀ c, OwnFrom w.heap.size (Ix c)) (h0 : I [] w) (hIz : ∀ pre W, I pre W → w.heap.size ≤ W.heap.size)
  (rc : α → Array Value) (rt : TypeId) (act : Nat → α → Act)
  (hassign : ∀ (l : Nat) (pre : List α) (x : α) (W : World) (K : Act → World → Prop) (Bx : Nat), Bx = W.heap.size → I pre W → K (act Bx x) (W.alloc (.cells (rc x) rt)) →
   assign.wpIn (F.inRound l) (n - 1 - 1) P (Exit.then K (fun _ _ _ => False)) { tmps := (ps.zip (encs x)).foldl (fun t (p, v) => t.setIfInBounds p v) a.tmps, defers := [] } W)
  (hbody : ∀ (l : Nat) (pre : List α) (x : α) (Bx : Nat) (W : World), I pre W → w.heap.size ≤ Bx → W.heap[Bx]? = some (.cells (rc x) rt) → pre.length < N → body.wpIn (F.inRound l) (n - 1 - 1) P (ownPostG w.heap.size (Kd n₀ base Bs) I Ix (pre ++ [x]) W) (act Bx x) W)
  (hdone : ∀ (D : Nat) (xs : List α) (W : World), w.heap.size ≤ D → S xs → I xs W → W.heap[D]? = some (.deferred (some [])) → Q .normal { a with defers := { target := .collected D, args := #[] } :: a.defers } W)
  (hstop : ∀ (D : Nat) (c : Code) (pre : List α) (W : World), w.heap.size ≤ D → Sp pre → Ix c pre W → W.heap[D]? = some (.deferred (some [])) → c.wpIn F n P Q { a with defers := { target := .collected D, args := #[] } :: a.defers } W) :
  (Code.rangeFunc g ps assign body).wpIn F n P Q a w := by
 refine wpIn_rangeFunc_ownH hro h1 hg hFg eg hseq (fun h k => h.t k) (Kd.b hn hBs) hb0 hps I Ix hI hIx h0
  (fun x a' W => ∃ Bx, w.heap.size ≤ Bx ∧ W.heap[Bx]? = some (.cells (rc x) rt) ∧ a' = act Bx x) ?_ ?_ ?_ hdone hstop
 ·intro x a' _ X Y row hs hg hr
  obtain ⟨Bx, h1, h2, h3⟩ := hs
  exact ⟨Bx, h1, (hg.block Bx (Array.getElem?_eq_some_iff.1 h2).1 (fun e => by obtain ⟨_, o, ho, hc⟩ := hr Bx e.symm; rw [h2] at ho; cases ho; cases hc)).trans h2, h3⟩
 ·intro l pre x W K hi hK
  exact hassign l pre x W K _ rfl hi (hK _ _ ((KeepsOthers.alloc _ _).from _) (Kd.of_below (Nat.le_trans hn (hIz _ _ hi)) (Nat.lt_of_lt_of_le hBs (hIz _ _ hi)) ((Below.refl _ _).alloc (Nat.le_refl _) _)) (hI.alloc _ hi) ⟨_, hIz _ _ hi, heap_new _ _ rfl, rfl⟩)
 ·intro l pre x a' W hl hr hi ha hlt
  obtain ⟨Bx, h1, h2, rfl⟩ := ha
  exact hbody l pre x Bx W hi h1 h2 hlt
end Go.Proofs.YtpndnbjpnajaaaaGreatDoor
namespace Go.Proofs.Qw
open Go.RowKit Go.Proofs.YtpndnbjpnajaaaaGreatDoor
def aroundF (l : List Cel) (k : Nat) : Int × List UInt8 :=
 (if 0 < k then (l.getD (k - 1) default).bits else if k < l.length then (l.getD k default).bits else 0,
  if 0 < k ∧ k < l.length ∧ (l.getD (k - 1) default).href = (l.getD k default).href then (l.getD (k - 1) default).href else [])
def handF (l : List Cel) (k : Nat) : List UInt8 := if 0 < k ∧ (l.getD (k - 1) default).href ≠ [] then (l.getD (k - 1) default).href else if k < l.length then (l.getD k default).href else []
def backF (l : List Cel) (h : List UInt8) : Nat → Nat
 | 0 => 0
 | k + 1 => if (l.getD k default).href = h then backF l h k else k + 1
def forthF (l : List Cel) (h : List UInt8) (k : Nat) : Nat := k + ((l.drop k).takeWhile fun c => decide (c.href = h)).length
def withinF (l : List Cel) (k : Nat) : Nat × Nat := if handF l k = [] then (k, k) else (backF l (handF l k) k, forthF l (handF l k) k)
theorem forthF_on {l : List Cel} {h : List UInt8} {k : Nat} {c : Cel} (hc : l[k]? = some c) (e : c.href = h) : forthF l h k = forthF l h (k + 1) := by
 obtain ⟨hk, rfl⟩ := List.getElem?_eq_some_iff.1 hc
 unfold forthF
 rw [List.drop_eq_getElem_cons hk, List.takeWhile_cons_of_pos (by simpa using e), List.length_cons]
 omega
theorem forthF_off {l : List Cel} {h : List UInt8} {k : Nat} {c : Cel} (hc : l[k]? = some c) (e : c.href ≠ h) : forthF l h k = k := by
 obtain ⟨hk, rfl⟩ := List.getElem?_eq_some_iff.1 hc
 unfold forthF
 rw [List.drop_eq_getElem_cons hk, List.takeWhile_cons_of_neg (by simpa using e)]
 rfl
theorem forthF_end {l : List Cel} {h : List UInt8} {k : Nat} (hk : l.length ≤ k) : forthF l h k = k := by
 unfold forthF
 rw [List.drop_eq_nil_of_le hk]
 rfl
def aheadC (l : List Cel) : Nat → Option Cel
 | 0 => none
 | k + 1 => l[k]?
theorem aroundF_eq (l : List Cel) (k : Nat) (hk : k ≤ l.length) : aroundF l k = (match aheadC l k, l[k]? with | some a, _ => a.bits | none, some b => b.bits | none, none => 0, match aheadC l k, l[k]? with | some a, some b => if a.href = b.href then a.href else [] | _, _ => []) := by
 unfold aroundF
 cases k with
 | zero =>
  by_cases h : 0 < l.length
  ·obtain ⟨x, hx, _⟩ := getOf l 0 h
   simp [aheadC, hx, h, List.getD]
  ·have : l[0]? = none := List.getElem?_eq_none (by omega)
   simp [aheadC, this, h]
 | succ j =>
  obtain ⟨a, ha, _⟩ := getOf l j (by omega)
  by_cases h : j + 1 < l.length
  ·obtain ⟨b, hb, _⟩ := getOf l (j + 1) h
   simp [aheadC, ha, hb, h, List.getD]
  ·have : l[j + 1]? = none := List.getElem?_eq_none (by omega)
   simp [aheadC, ha, this, h, List.getD]
theorem handF_eq (l : List Cel) (k : Nat) (hk : k ≤ l.length) : handF l k = match aheadC l k, l[k]? with | some a, some b => if a.href = [] then b.href else a.href | some a, none => a.href | none, some b => b.href | none, none => [] := by
 unfold handF
 cases k with
 | zero =>
  by_cases h : 0 < l.length
  ·obtain ⟨x, hx, _⟩ := getOf l 0 h
   simp [aheadC, hx, h, List.getD]
  ·have : l[0]? = none := List.getElem?_eq_none (by omega)
   simp [aheadC, this, h]
 | succ j =>
  obtain ⟨a, ha, _⟩ := getOf l j (by omega)
  by_cases h : j + 1 < l.length
  ·obtain ⟨b, hb, _⟩ := getOf l (j + 1) h
   by_cases he : a.href = [] <;> simp [aheadC, ha, hb, h, he, List.getD]
  ·have : l[j + 1]? = none := List.getElem?_eq_none (by omega)
   by_cases he : a.href = [] <;> simp [aheadC, ha, this, h, he, List.getD]
end Go.Proofs.Qw
namespace Go.Proofs.YtpndnbjpnajaaaaGreatDoor
open Go.RowKit
open Go.Proofs.Qw
def PtrOf (w : World) (p : Option Addr) : Option Cel → Prop
 | none => p = none
 | some c => ∃ b o, p = some ⟨b, o, none⟩ ∧ b < w.heap.size ∧ w.cell? ⟨b, o, none⟩ = some (.int .i32 c.r) ∧ w.cell? ⟨b, o + 1, none⟩ = some (.int .i64 c.bits) ∧ w.cell? ⟨b, o + 2, none⟩ = some (.string ⟨c.href.toArray⟩)
set_option maxRecDepth 100000 in
set_option maxHeartbeats 1000000 in
theorem sides_any (v : Value) (l : List Cel) (k : Nat) (w : World) (S : Nat → Prop) (h : CelsR false w S v l) (hk : k ≤ l.length) :
  Calls Tryz.prog 147 #[v, .int .i64 k] w fun e w' => ∃ pa pb, e = .returned (.tuple #[.int .i64 k, .pointer pa, .pointer pb]) ∧ w' = w ∧ PtrOf w pa (aheadC l k) ∧ PtrOf w pb l[k]? := by
 obtain ⟨a, c, rfl, hc, hm, hx⟩ := cels_shape h
 have e1 : max (k : Int) 0 = k := by omega
 have e2 : min (k : Int) (l.length : Int) = k := by omega
 unfold maxLen at hm
 have HX := Lib.hid hx
 clear hx h
 cases k with
 | zero =>
  by_cases hn : 0 < l.length
  ·obtain ⟨x, hx0, _⟩ := getOf l 0 hn
   obtain ⟨b, o, rfl, hz, c0, c1, c2⟩ := HX.out 0 x hx0
   have HB : Hid (PtrOf w (some ⟨b, o, none⟩) l[0]?) := Lib.hid (by rw [hx0]; exact ⟨b, o, rfl, hz, by simpa using c0, by simpa using c1, by simpa using c2⟩)
   clear hx0 c0 c1 c2 hz
   go_enter Tryz.func147, Tryz.ntmps147
   go_wp2_with fail
   go_ret3
   exact ⟨none, _, rfl, rfl, rfl, HB.out⟩
  ·have hn : l.length = 0 := by omega
   have HB : Hid (PtrOf w none l[0]?) := Lib.hid (by rw [List.getElem?_eq_none (by omega)]; exact rfl)
   go_enter Tryz.func147, Tryz.ntmps147
   go_wp2_with fail
   go_ret3
   exact ⟨none, none, rfl, rfl, rfl, HB.out⟩
 | succ j =>
  obtain ⟨x, hx0, _⟩ := getOf l j (by omega)
  obtain ⟨b, o, rfl, hz, c0, c1, c2⟩ := HX.out j x hx0
  have HA : Hid (PtrOf w (some ⟨b, o + j * 3, none⟩) (aheadC l (j + 1))) := Lib.hid (by show PtrOf _ _ l[j]?; rw [hx0]; exact ⟨b, o + j * 3, rfl, hz, c0, c1, c2⟩)
  have e1' : max ((j : Int) + 1) 0 = (j : Int) + 1 := by omega
  have e2' : min ((j : Int) + 1) (l.length : Int) = (j : Int) + 1 := by omega
  have e4 : ((j : Int) + 1).toNat = j + 1 := by omega
  clear e1 e2
  clear hx0 c0 c1 c2
  by_cases hn : j + 1 < l.length
  ·obtain ⟨y, hy0, _⟩ := getOf l (j + 1) hn
   obtain ⟨b', o', hbe, hz', c0, c1, c2⟩ := HX.out (j + 1) y hy0
   cases hbe
   have HB : Hid (PtrOf w (some ⟨b, o + (j + 1) * 3, none⟩) l[j + 1]?) := Lib.hid (by rw [hy0]; exact ⟨b, o + (j + 1) * 3, rfl, hz', c0, c1, c2⟩)
   clear hy0 c0 c1 c2 hz' hz
   go_enter Tryz.func147, Tryz.ntmps147
   go_wp2_with fail
   go_ret3
   exact ⟨_, _, rfl, rfl, HA.out, HB.out⟩
  ·have HB : Hid (PtrOf w none l[j + 1]?) := Lib.hid (by rw [List.getElem?_eq_none (by omega)]; exact rfl)
   clear hz
   go_enter Tryz.func147, Tryz.ntmps147
   go_wp2_with fail
   go_ret3
   exact ⟨_, none, rfl, rfl, HA.out, HB.out⟩
set_option maxRecDepth 100000 in
set_option maxHeartbeats 2000000 in
theorem around_any (v : Value) (l : List Cel) (k : Nat) (w : World) (S : Nat → Prop) (h : CelsR false w S v l) (hk : k ≤ l.length) :
  Calls Tryz.prog 76 #[v, .int .i64 k] w fun e w' => e = .returned (.tuple #[.int .i64 (aroundF l k).1, .string ⟨(aroundF l k).2.toArray⟩]) ∧ Below w.heap.size w w' := by
 have HS := Lib.hid (sides_any v l k w S h hk)
 have HR := Lib.hid (aroundF_eq l k hk)
 obtain ⟨r1, r2, hr⟩ : ∃ r1 r2, aroundF l k = (r1, r2) := ⟨_, _, rfl⟩
 rw [hr] at HR ⊢
 clear hr hk
 obtain ⟨a, c, rfl⟩ := h.slice
 clear h
 have hw0 : Below w.heap.size w w := Below.refl _ _
 generalize aheadC l k = X at *
 generalize l[k]? = Y at *
 cases X with
 | none =>
  cases Y with
  | none =>
   go_enter Tryz.func76, Tryz.ntmps76
   go_wp2_with (go_at_call 147; refine HS.out.mono ?_; intro e w1 hs; obtain ⟨pa, pb, rfl, rfl, hpa, hpb⟩ := hs; obtain rfl : pa = none := hpa; obtain rfl : pb = none := hpb)
   go_region
   go_wp2_with fail
   go_ret2
   cases HR.out
   exact ⟨rfl, (by (repeat' (first | (with_reducible exact Below.refl _ _) | (with_reducible assumption) | (with_reducible refine Below.alloc ?_ ?_ _) | (with_reducible refine Below.drew ?_) | (with_reducible refine drewN_below ?_) | (with_reducible refine Below.setCell ?_ ?_ _) | go_size)))⟩
  | some y =>
   go_enter Tryz.func76, Tryz.ntmps76
   go_wp2_with (go_at_call 147; refine HS.out.mono ?_; intro e w1 hs; obtain ⟨pa, pb, rfl, rfl, hpa, hpb⟩ := hs; obtain rfl : pa = none := hpa; obtain ⟨b, o, rfl, hz, c0, c1, c2⟩ := hpb)
   go_region
   go_wp2_with fail
   go_ret2
   cases HR.out
   exact ⟨rfl, (by (repeat' (first | (with_reducible exact Below.refl _ _) | (with_reducible assumption) | (with_reducible refine Below.alloc ?_ ?_ _) | (with_reducible refine Below.drew ?_) | (with_reducible refine drewN_below ?_) | (with_reducible refine Below.setCell ?_ ?_ _) | go_size)))⟩
 | some x =>
  cases Y with
  | none =>
   go_enter Tryz.func76, Tryz.ntmps76
   go_wp2_with (go_at_call 147; refine HS.out.mono ?_; intro e w1 hs; obtain ⟨pa, pb, rfl, rfl, hpa, hpb⟩ := hs; obtain ⟨b, o, rfl, hz, c0, c1, c2⟩ := hpa; obtain rfl : pb = none := hpb)
   go_region
   go_wp2_with fail
   go_ret2
   cases HR.out
   exact ⟨rfl, (by (repeat' (first | (with_reducible exact Below.refl _ _) | (with_reducible assumption) | (with_reducible refine Below.alloc ?_ ?_ _) | (with_reducible refine Below.drew ?_) | (with_reducible refine drewN_below ?_) | (with_reducible refine Below.setCell ?_ ?_ _) | go_size)))⟩
  | some y =>
   by_cases hxy : x.href = y.href
   ·have HQ : Hid ((r1, r2) = (x.bits, x.href)) := Lib.hid (HR.out.trans (by simp [hxy]))
    have hq : (x.href == y.href) = true := by simpa using hxy
    clear hxy HR
    go_enter Tryz.func76, Tryz.ntmps76
    go_wp2_with (go_at_call 147; refine HS.out.mono ?_; intro e w1 hs; obtain ⟨pa, pb, rfl, rfl, hpa, hpb⟩ := hs; obtain ⟨b, o, rfl, hz, c0, c1, c2⟩ := hpa; obtain ⟨b', o', rfl, hz', c0', c1', c2'⟩ := hpb)
    go_region
    go_wp2_with fail
    go_ret2
    cases HQ.out
    exact ⟨rfl, (by (repeat' (first | (with_reducible exact Below.refl _ _) | (with_reducible assumption) | (with_reducible refine Below.alloc ?_ ?_ _) | (with_reducible refine Below.drew ?_) | (with_reducible refine drewN_below ?_) | (with_reducible refine Below.setCell ?_ ?_ _) | go_size)))⟩
   ·have HQ : Hid ((r1, r2) = (x.bits, [])) := Lib.hid (HR.out.trans (by simp [hxy]))
    have hq : (x.href == y.href) = false := by simpa using hxy
    clear hxy HR
    go_enter Tryz.func76, Tryz.ntmps76
    go_wp2_with (go_at_call 147; refine HS.out.mono ?_; intro e w1 hs; obtain ⟨pa, pb, rfl, rfl, hpa, hpb⟩ := hs; obtain ⟨b, o, rfl, hz, c0, c1, c2⟩ := hpa; obtain ⟨b', o', rfl, hz', c0', c1', c2'⟩ := hpb)
    go_region
    go_wp2_with fail
    go_ret2
    cases HQ.out
    exact ⟨rfl, (by (repeat' (first | (with_reducible exact Below.refl _ _) | (with_reducible assumption) | (with_reducible refine Below.alloc ?_ ?_ _) | (with_reducible refine Below.drew ?_) | (with_reducible refine drewN_below ?_) | (with_reducible refine Below.setCell ?_ ?_ _) | go_size)))⟩
set_option maxRecDepth 100000 in
set_option maxHeartbeats 4000000 in
theorem within_any (v : Value) (l : List Cel) (k : Nat) (w : World) (S : Nat → Prop) (h : CelsR false w S v l) (hk : k ≤ l.length) (hl : l.length ≤ 1000000) :
  Calls Tryz.prog 207 #[v, .int .i64 k] w fun e w' => e = .returned (.tuple #[.int .i64 (withinF l k).1, .int .i64 (withinF l k).2]) ∧ Below w.heap.size w w' := by
 have HS := Lib.hid (sides_any v l k w S h hk)
 have HE := Lib.hid (handF_eq l k hk)
 obtain ⟨H, hH⟩ : ∃ H, handF l k = H := ⟨_, rfl⟩
 have HR : Hid (withinF l k = if H = [] then (k, k) else (backF l H k, forthF l H k)) := Lib.hid (by unfold withinF; rw [hH])
 rw [hH] at HE
 clear hH
 obtain ⟨a, c, rfl, hc, hm, hx⟩ := cels_shape h
 unfold maxLen at hm
 have HX := Lib.hid hx
 clear hx h
 have hw0 : Below w.heap.size w w := Below.refl _ _
 go_enter Tryz.func207, Tryz.ntmps207
 go_upto_if 18 with (go_at_call 147; refine HS.out.mono ?_; intro e w1 hs; obtain ⟨pa, pb, rfl, rfl, hpa, hpb⟩ := hs; have HA := Lib.hid hpa; have HB := Lib.hid hpb; clear hpa hpb)
 clear HS
 generalize aheadC l k = X at *
 obtain ⟨Y, hY⟩ : ∃ Y, l[k]? = Y := ⟨_, rfl⟩
 rw [hY] at HB HE
 clear hY
 obtain ⟨h0, hh0⟩ : ∃ h0 : List UInt8, (Y.map (fun y : Cel => y.href)).getD [] = h0 := ⟨_, rfl⟩
 have hE : H = (X.map (fun x : Cel => if x.href = [] then h0 else x.href)).getD h0 := by rw [HE.out, ← hh0]; cases X <;> cases Y <;> simp
 clear HE
 have HE := Lib.hid hE
 clear hE
 go_cut [9] from 17 (fun r wx => r = .string ⟨h0.toArray⟩ ∧ wx = w1)
 case first =>
  cases Y with
  | none =>
   obtain rfl : pb = none := HB.out
   cases hh0
   go_wp2_with fail
   go_meet
   case rel => exact ⟨rfl, rfl⟩
  | some y =>
   obtain ⟨b, o, rfl, hz, c0, c1, c2⟩ := HB.out
   cases hh0
   go_wp2_with fail
   go_meet
   case rel => exact ⟨rfl, rfl⟩
 case rest =>
 obtain ⟨rfl, rfl⟩ := hcut
 clear hh0 HB
 obtain ⟨B, hB⟩ : ∃ B, (X.map (fun x : Cel => !x.href.isEmpty)).getD false = B := ⟨_, rfl⟩
 go_upto_region 5 with fail
 go_cut [31] from 25 to 31 (fun r wx => r = .bool B ∧ wx = wc)
 case first =>
  cases X with
  | none =>
   obtain rfl : pa = none := HA.out
   cases hB
   go_wp2_with fail
   go_meet
   case rel => exact ⟨rfl, rfl⟩
  | some x =>
   obtain ⟨b, o, rfl, hz, c0, c1, c2⟩ := HA.out
   have hB' : B = !x.href.isEmpty := hB.symm
   clear hB
   cases hq : x.href.isEmpty
   all_goals
    rw [hq] at hB'
    subst hB'
    go_wp2_with fail
    go_meet
    case rel => exact ⟨rfl, rfl⟩
 case rest =>
 obtain ⟨rfl, rfl⟩ := hcut
 have hHB : (B = false ∧ H = h0) ∨ (B = true ∧ ∃ x, X = some x ∧ H = x.href) := by
  rw [← hB, HE.out]
  cases X with
  | none => exact .inl ⟨rfl, rfl⟩
  | some x =>
   cases hx : x.href with
   | nil => exact .inl ⟨by simp [hx], by simp [hx]⟩
   | cons y l => exact .inr ⟨by simp [hx], x, rfl, by simp [hx]⟩
 have HHB := Lib.hid hHB
 clear hHB hB HE
 go_upto_if 31 with fail
 go_cut [9] from 32 (fun r wx => r = .string ⟨H.toArray⟩ ∧ wx = wc)
 case first =>
  rcases HHB.out with ⟨rfl, rfl⟩ | ⟨rfl, x, rfl, rfl⟩
  ·go_wp2_with fail
   go_meet
   case rel => exact ⟨rfl, rfl⟩
  ·obtain ⟨b, o, rfl, hz, c0, c1, c2⟩ := HA.out
   go_wp2_with fail
   go_meet
   case rel => exact ⟨rfl, rfl⟩
 case rest =>
 obtain ⟨rfl, rfl⟩ := hcut
 clear HA HHB
 by_cases hH : H = []
 ·have HQ : Hid (withinF l k = (k, k)) := Lib.hid (HR.out.trans (if_pos hH))
  subst hH
  go_wp2_with fail
  go_ret2
  rw [HQ.out]
  exact ⟨rfl, hw0⟩
 ·have HQ : Hid (withinF l k = (backF l H k, forthF l H k)) := Lib.hid (HR.out.trans (if_neg hH))
  have hne : H.isEmpty = false := by simpa using hH
  clear HR hH
  go_wp2_with fail
  go_loopw [4] (fun i wr => ∃ j : Nat, j ≤ k ∧ i = .int .i64 j ∧ Hid (backF l H k = backF l H j) ∧ wc = wr) (fun i _ => (intOf i).toNat)
  case atStart => exact ⟨k, Nat.le_refl _, rfl, Lib.hid rfl, rfl⟩
  case round =>
   obtain ⟨j, hj, rfl, HJ, rfl⟩ := hrel
   have hdone : (j = 0 ∨ ∃ m, j = m + 1 ∧ ∃ x, l[m]? = some x ∧ x.href ≠ H) ∨ ∃ m, j = m + 1 ∧ ∃ x, l[m]? = some x ∧ x.href = H := by
    cases j with
    | zero => exact .inl (.inl rfl)
    | succ m =>
     obtain ⟨x, hx, _⟩ := getOf l m (by omega)
     by_cases e : x.href = H
     ·exact .inr ⟨m, rfl, x, hx, e⟩
     ·exact .inl (.inr ⟨m, rfl, x, hx, e⟩)
   rcases hdone with (rfl | ⟨m, rfl, x, hx, hxe⟩) | ⟨m, rfl, x, hx, hxe⟩
   ·have HB' : Hid (backF l H k = 0) := Lib.hid (HJ.out.trans rfl)
    go_wp2_with fail
    go_loopw [5] (fun i wr => ∃ n : Nat, k ≤ n ∧ n ≤ l.length ∧ i = .int .i64 n ∧ Hid (forthF l H k = forthF l H n) ∧ wc = wr) (fun i _ => l.length - (intOf i).toNat)
    case atStart => exact ⟨k, Nat.le_refl _, hk, rfl, Lib.hid rfl, rfl⟩
    case round =>
     obtain ⟨n, hn, hnl, rfl, HN, rfl⟩ := hrel
     by_cases hlt : n < l.length
     ·obtain ⟨y, hy, _⟩ := getOf l n hlt
      obtain ⟨b', o', hbe, hz', d0, d1, d2⟩ := HX.out n y hy
      subst hbe
      have n0 : (0 : Int) ≤ (n : Int) := Int.natCast_nonneg _
      by_cases hye : y.href = H
      ·have HF := Lib.hid (HN.out.trans (forthF_on hy hye))
       have hq : (y.href == H) = true := by simpa using hye
       clear hy hye
       go_wp2_with fail
       go_roundw
       case rel => exact ⟨n + 1, by omega, by omega, by go_num, HF, by simp⟩
       case measure => simp [intOf]; omega
      ·have HF := Lib.hid (HN.out.trans (forthF_off hy hye))
       have hq : (y.href == H) = false := by simpa using hye
       clear hy hye
       go_wp2_with fail
       go_ret2
       rw [HQ.out, HB'.out, HF.out]
       exact ⟨rfl, hw0⟩
     ·obtain rfl : n = l.length := by omega
      have HF := Lib.hid (HN.out.trans (forthF_end (Nat.le_refl _)))
      go_wp2_with fail
      go_ret2
      rw [HQ.out, HB'.out, HF.out]
      exact ⟨rfl, hw0⟩
   ·have HB' : Hid (backF l H k = m + 1) := Lib.hid (HJ.out.trans (by unfold backF; rw [if_neg (by simpa [List.getD, hx] using hxe)]))
    obtain ⟨b, o, rfl, hz, c0, c1, c2⟩ := HX.out m x hx
    have hq : (x.href == H) = false := by simpa using hxe
    have e3 : ((m + 1 : Nat) : Int) - 1 = m := by omega
    clear hx hxe
    go_wp2_with fail
    go_loopw [5] (fun i wr => ∃ n : Nat, k ≤ n ∧ n ≤ l.length ∧ i = .int .i64 n ∧ Hid (forthF l H k = forthF l H n) ∧ wc = wr) (fun i _ => l.length - (intOf i).toNat)
    case atStart => exact ⟨k, Nat.le_refl _, hk, rfl, Lib.hid rfl, rfl⟩
    case round =>
     obtain ⟨n, hn, hnl, rfl, HN, rfl⟩ := hrel
     by_cases hlt : n < l.length
     ·obtain ⟨y, hy, _⟩ := getOf l n hlt
      obtain ⟨b', o', hbe, hz', d0, d1, d2⟩ := HX.out n y hy
      cases hbe
      have n0 : (0 : Int) ≤ (n : Int) := Int.natCast_nonneg _
      by_cases hye : y.href = H
      ·have HF := Lib.hid (HN.out.trans (forthF_on hy hye))
       have hq : (y.href == H) = true := by simpa using hye
       clear hy hye
       go_wp2_with fail
       go_roundw
       case rel => exact ⟨n + 1, by omega, by omega, by go_num, HF, by simp⟩
       case measure => simp [intOf]; omega
      ·have HF := Lib.hid (HN.out.trans (forthF_off hy hye))
       have hq : (y.href == H) = false := by simpa using hye
       clear hy hye
       go_wp2_with fail
       go_ret2
       rw [HQ.out, HB'.out, HF.out]
       exact ⟨rfl, hw0⟩
     ·obtain rfl : n = l.length := by omega
      have HF := Lib.hid (HN.out.trans (forthF_end (Nat.le_refl _)))
      go_wp2_with fail
      go_ret2
      rw [HQ.out, HB'.out, HF.out]
      exact ⟨rfl, hw0⟩
   ·have HB' := Lib.hid (HJ.out.trans (show backF l H (m + 1) = backF l H m by rw [backF, if_pos (by simpa [List.getD, hx] using hxe)]))
    obtain ⟨b, o, rfl, hz, c0, c1, c2⟩ := HX.out m x hx
    have hq : (x.href == H) = true := by simpa using hxe
    have e3 : ((m + 1 : Nat) : Int) - 1 = m := by omega
    clear hx hxe
    go_wp2_with fail
    go_roundw
    case rel => exact ⟨m, by omega, by go_num, HB', by simp⟩
    case measure => simp [intOf]
end Go.Proofs.YtpndnbjpnajaaaaGreatDoor
namespace Go.Proofs.Qw
open Go.RowKit Go.Proofs.YtpndnbjpnajaaaaGreatDoor
def selS (s : St) : List Cel := cellsD s.lines (spanS s).1 (spanS s).2
def cellsAt (s : St) : List Cel := (s.lines.getD s.anc.line.toNat default).cells
def andB (l : List Cel) : Int := l.foldl (fun b c => bits .and .i64 b c.bits) 15
def bitsL (l : List Cel) : Int := if l = [] then 0 else andB l
def bitsS (s : St) : Int := if mayS s = true then (if s.anc = s.foc then bits .or .i64 (bits .andNot .i64 (aroundF (cellsAt s) s.anc.col.toNat).1 s.off) s.on else bitsL (selS s)) else 0
def allL (l : List Cel) (b : Int) : Bool := decide (0 < l.length) && l.all fun c => bits .and .i64 c.bits b == b
def someL (l : List Cel) (b : Int) : Bool := l.any fun c => bits .and .i64 c.bits b != 0
def handS (s : St) : Ps × Ps := if s.anc = s.foc then (⟨s.anc.line, ((withinF (cellsAt s) s.anc.col.toNat).1 : Int)⟩, ⟨s.anc.line, ((withinF (cellsAt s) s.anc.col.toNat).2 : Int)⟩) else spanS s
def hrefL : List Cel → List UInt8
 | [] => []
 | c :: l => if l.all (fun x => decide (x.href = c.href)) = true then c.href else []
def hrefS (s : St) : List UInt8 := if mayS s = true then hrefL (cellsD s.lines (handS s).1 (handS s).2) else []
def staysS (s : St) (x : Doc × Int) : St × Int := if x.2 = 0 then (⟨x.1, s.anc, s.foc, 0, 0⟩, 0) else (noS, x.2)
def changedS (s : St) (x : Doc × Int) : St × Int := if mayS s = true then staysS s x else (noS, 1)
def four (b : Int) : Bool := decide (b = 1) || (decide (b = 2) || (decide (b = 4) || decide (b = 8)))
def togC (s : St) (b : Int) : St :=
 { s with on := bits .or .i64 (bits .andNot .i64 s.on b) (bits .andNot .i64 b (bitsS s)), off := bits .or .i64 (bits .andNot .i64 s.off b) (bits .andNot .i64 b (bits .andNot .i64 b (bitsS s))) }
def togD (s : St) (b : Int) : Doc × Int := if allL (selS s) b = true then setD 0 b s.lines (spanS s).1 (spanS s).2 else setD b 0 s.lines (spanS s).1 (spanS s).2
def toggleS (s : St) (b : Int) : St × Int := if mayS s = true ∧ four b = true then (if s.anc = s.foc then (togC s b, 0) else staysS s (togD s b)) else (noS, 1)
def linkL (s : St) (h : List UInt8) : Doc × Int := if targetF h = true then linkD h s.lines (spanS s).1 (spanS s).2 else ([], 1)
def unlinkL (s : St) : Doc × Int := if (cellsD s.lines (handS s).1 (handS s).2).any (fun c => decide (c.href ≠ [])) = true then linkD [] s.lines (handS s).1 (handS s).2 else ([], 7)
def plainL (s : St) : Doc × Int := if someL (selS s) 15 = true then setD 0 15 s.lines (spanS s).1 (spanS s).2 else ([], 7)
theorem spanS_closed {s : St} (h : s.anc = s.foc) : spanS s = (s.anc, s.anc) := by
 have : cmpP s.foc s.foc = 0 := by simp [cmpP, cmpI]
 unfold spanS
 rw [h, this, if_neg (by omega)]
theorem mayS_at {s : St} (h : mayS s = true) : mayD s.lines = true ∧ isD s.lines s.anc = true ∧ isD s.lines s.foc = true ∧ bits .andNot .i64 s.on 15 = 0 ∧ bits .andNot .i64 s.off 15 = 0 ∧ bits .and .i64 s.on s.off = 0 := by
 simpa [mayS, and_assoc] using h
theorem mayS_span {s : St} (h : mayS s = true) : spanD s.lines (spanS s).1 (spanS s).2 = true := by
 obtain ⟨h1, h2, h3, _⟩ := mayS_at h
 unfold spanS
 split
 ·rename_i hc
  rw [cmpP_lt] at hc
  simp [spanD, h1, h2, h3]
  omega
 ·simp [spanD, h1, h2, h3]
  omega
theorem four_cases {b : Int} (h : four b = true) : b = 1 ∨ b = 2 ∨ b = 4 ∨ b = 8 := by
 simpa [four] using h
end Go.Proofs.Qw
namespace Go.Proofs.Qw
open Go.RowKit Go.Proofs.YtpndnbjpnajaaaaGreatDoor
theorem part_cells (d : Doc) (a b : Ps) : (partD d a b).1.flatMap (·.cells) = cellsD d a b := by
 unfold partD cellsD
 split
 ·rw [List.flatMap_map]; rfl
 ·rfl
end Go.Proofs.Qw
namespace Go.Proofs.YtpndnbjpnajaaaaGreatDoor
open Go.RowKit
open Go.Proofs.Qw
attribute [local go_sem] Oper.semAt_some
set_option maxHeartbeats 400000 in
theorem selected_any (va : Option Addr) (vn vc : Nat) (a b : Ps) (w : World) :
  Calls Tryz.prog 77 #[.slice va vn vc, .agg #[.int .i64 a.line, .int .i64 a.col], .agg #[.int .i64 b.line, .int .i64 b.col]] w fun e w' => e = .returned (.func (.func 148) #[] #[.pointer (some ⟨w.heap.size, 0, none⟩), .pointer (some ⟨w.heap.size + 1, 0, none⟩), .pointer (some ⟨w.heap.size + 2, 0, none⟩)]) ∧
   w' = ((w.alloc (.cells #[.slice va vn vc] 22)).alloc (.cells #[.int .i64 a.line, .int .i64 a.col] 24)).alloc (.cells #[.int .i64 b.line, .int .i64 b.col] 24) := by
 go_enter Tryz.func77, Tryz.ntmps77
 go_wp2_with fail
 go_ret
 exact ⟨rfl, rfl⟩
set_option maxRecDepth 200000 in
set_option maxHeartbeats 4000000 in
theorem selected1_in (n l Bd Ba Bb base Bs : Nat) (v : Value) (d : Doc) (a b : Ps) (S : Nat → Prop) (J Jx : List Cel → World → Prop) (w0 W : World) (hv : LinsR w0 S v d) (he : EnvT w0) (hs : Small d) (hf : Fits d) (hb0 : Below w0.heap.size w0 W)
  (hbase : base ≤ W.heap.size) (hD : W.heap[Bd]? = some (.cells #[v] 22)) (hA : W.heap[Ba]? = some (.cells #[.int .i64 a.line, .int .i64 a.col] 24)) (hB : W.heap[Bb]? = some (.cells #[.int .i64 b.line, .int .i64 b.col] 24))
  (hBs : Bs < W.heap.size) (hown : ownAt Bs W = none) (hJ : AbidesFrom W.heap.size J)
  (hY : ∀ (pre : List Cel) (x : Cel) W, J pre W → pre.length < 200000 → YieldAt Fence.wide (n - 1) Tryz.prog l #[celV x] W fun e W' =>
   (e = .returned (.bool true) ∧ J (pre ++ [x]) W' ∧ Kd w0.heap.size base Bs W W') ∨ (e = .returned (.bool false) ∧ Jx (pre ++ [x]) W'))
  (h0 : J [] W) :
  CallsIn Fence.wide n Tryz.prog 148 #[.func (.yield l) #[] #[], .pointer (some ⟨Bd, 0, none⟩), .pointer (some ⟨Ba, 0, none⟩), .pointer (some ⟨Bb, 0, none⟩)] W fun e W' => (∃ v, e = .returned v) ∧
   ((∃ ys : List Cel, ys = cellsD d a b ∧ J ys W') ∨ (∃ pre : List Cel, pre <+: cellsD d a b ∧ Jx pre W')) := by
 refine callsIn_of_wp Tryz.func148 rfl trivial ?_ rfl
 simp only [Tryz.ntmps148, List.size_toArray, List.length_cons, List.length_nil, Nat.reduceAdd, Nat.reduceSub, Array.replicate_succ, Array.replicate_zero, List.push_toArray, List.append_toArray, List.nil_append, List.cons_append]
 have hwf : ∀ f, Fence.wide.fn f := fun _ => trivial
 have hwd : Fence.wide.depth = none := rfl
 have hz0 := hb0.size
 have HP := Lib.hid (docPart_any v d a b W S (SliceR.below (rdLin_stable _) hv hb0) (he.below hb0) hs hf)
 obtain ⟨P, er, hP⟩ : ∃ P er, partD d a b = (P, er) := ⟨_, _, rfl⟩
 have HC : Hid (P.flatMap (·.cells) = cellsD d a b) := Lib.hid (by rw [← part_cells, hP])
 have HCL : Hid ((P.flatMap (·.cells)).length ≤ 100000) := Lib.hid (by rw [HC.out]; exact Nat.le_trans (cellsD_size d a b) hs.1)
 rw [hP] at HP
 obtain ⟨va, vc, rfl⟩ := hv.slice
 have HY := Lib.hid hY
 have HJA := Lib.hid hJ
 have HB0 := Lib.hid hb0
 obtain ⟨p1, f1⟩ := blk hD
 obtain ⟨p2, f2⟩ := blk hA
 obtain ⟨p3, f3⟩ := blk hB
 clear hv he hs hf hY hJ hP hD hA hB
 gi_wp2_with (gi_at_call 57; refine (callsIn_wide.2 HP.out).mono ?_; intro e W2 hsaid; obtain ⟨v2, rfl, hv2, hb2⟩ := hsaid; have HV2 := Lib.hid hv2; have hvl := hv2.slice; clear hv2; obtain ⟨a2, c2, rfl⟩ := hvl)
 clear p1 f1 p2 f2 p3 f3 HP
 have hz2 := hb2.size
 have HB2 := Lib.hid hb2
 have HKC0 := Lib.hid (KC.start (W2 := W2) (Z := W.heap.size) (Bs := Bs) (below_from HB0.out hb2) (by
  unfold ownAt
  rw [hb2.cell (p := ⟨Bs, 0, none⟩) hBs]
  exact hown))
 have HJ2 := Lib.hid (abides_below HJA.out h0 hb2)
 have HKD : Hid (∀ X Y, KC W2 W.heap.size Bs w0.heap.size w0 X → Below X.heap.size X Y → Kd w0.heap.size base Bs X Y) := Lib.hid fun X Y hX hb => Kd.of_below (by have := hX.size; omega) (by have := hX.size; omega) hb
 clear hb2 hown h0 hb0
 have hPl : P.length ≤ 9223372036854775807 := by
  have hh := SliceR.len HV2.out
  unfold maxLen at hh
  omega
 gi_loopw [20, 8, 10] (fun z _ _ wr => ∃ k : Nat, k ≤ P.length ∧ z = .int .i64 k ∧ Hid (J ((P.take k).flatMap (·.cells)) wr) ∧ Hid (KC W2 W.heap.size Bs w0.heap.size w0 wr) ∧ W2.heap.size ≤ wr.heap.size) (fun z _ _ _ => P.length - (intOf z).toNat)
 case atStart => exact ⟨0, Nat.zero_le _, rfl, HJ2, HKC0, Nat.le_refl _⟩
 case round =>
  obtain ⟨k, hk, rfl, HJ, HK, hzr⟩ := hrel
  by_cases hlt : k < P.length
  ·obtain ⟨ln, hln, _⟩ := getOf P k hlt
   obtain ⟨b1, o1, c1, la, lc, ca, cc, hve, hc1, hm1, hAk, _, hCk, hS1⟩ := docOwn_at HV2.out hln
   cases hve
   have hlt1 := hAk.lt
   have c0 := HK.out.cell _ _ _ hS1 hlt1 hAk.quote
   have c1' := HK.out.cell _ _ _ hS1 hlt1 hAk.lists
   have c2' := HK.out.cell _ _ _ hS1 hlt1 hAk.kind
   have c3 := HK.out.cell _ _ _ hS1 hlt1 hAk.cells
   have HCK := Lib.hid hCk
   have hcl := SliceR.len hCk
   have HT : Hid ((P.take (k + 1)).flatMap (·.cells) = (P.take k).flatMap (·.cells) ++ ln.cells) := Lib.hid (by rw [take_some hln, List.flatMap_append]; simp)
   have HPL : Hid ((P.take k).flatMap (·.cells) = (P.take k).flatMap (·.cells)) := Lib.hid rfl
   obtain ⟨F, hF⟩ : ∃ F, (P.take k).flatMap (·.cells) = F := ⟨_, rfl⟩
   have HFL : Hid (F.length + ln.cells.length ≤ 100000) := Lib.hid (by
    have h1 : ((P.take (k + 1)).flatMap (·.cells)).length ≤ (P.flatMap (·.cells)).length := by
     conv => rhs; rw [← List.take_append_drop (k + 1) P, List.flatMap_append, List.length_append]
     omega
    rw [HT.out, hF, List.length_append] at h1
    exact Nat.le_trans h1 HCL.out)
   rw [hF] at HJ HT
   clear hF HPL hCk hAk
   unfold maxLen at hm1 hcl
   have i0 : (0 : Int) ≤ (k : Int) := Int.natCast_nonneg _
   have i1 : (k : Int) < (P.length : Int) := by omega
   gi_wp2_with fail
   obtain ⟨w4, hw4⟩ : ∃ w4, wr.alloc (.cells #[.int .i64 ln.quote, .slice la ln.lists.length lc, .int .i64 ln.kind, .slice ca ln.cells.length cc] 42) = w4 := ⟨_, rfl⟩
   rw [hw4]
   have hb4 : Below wr.heap.size wr w4 := hw4 ▸ (Below.refl _ _).alloc (Nat.le_refl _) _
   have HJ4 := Lib.hid (abides_below HJA.out HJ.out hb4)
   have HK4 := Lib.hid (HK.out.go hbase (HKD.out _ _ HK.out hb4))
   have hz4 := hb4.size
   clear hw4 hb4
   gi_loopw [27, 10] (fun z _ wr => ∃ m : Nat, m ≤ ln.cells.length ∧ z = .int .i64 m ∧ Hid (J (F ++ ln.cells.take m) wr) ∧ Hid (KC W2 W.heap.size Bs w0.heap.size w0 wr) ∧ W2.heap.size ≤ wr.heap.size) (fun z _ _ => ln.cells.length - (intOf z).toNat)
   case atStart => exact ⟨0, Nat.zero_le _, rfl, Lib.hid (by simpa using HJ4.out), HK4, by omega⟩
   case round =>
    obtain ⟨m, hm, rfl, HJm, HKm, hzm⟩ := hrel
    by_cases hlt2 : m < ln.cells.length
    ·obtain ⟨x, hx, _⟩ := getOf ln.cells m hlt2
     obtain ⟨a5, c5, hve5, hcc5, hmm5, hx5⟩ := SliceR.shape_own HCK.out
     cases hve5
     obtain ⟨b5, o5, vs5, cs5, rfl, hz5, hS5, _, _, _, hvs5, he5⟩ := hx5 m x hx
     cases hvs5
     have d0 : wr.cell? ⟨b5, o5 + m * 3, none⟩ = some (.int .i32 x.r) := HKm.out.cell _ _ _ hS5 hz5 (he5 0 _ rfl)
     have d1 : wr.cell? ⟨b5, o5 + m * 3 + 1, none⟩ = some (.int .i64 x.bits) := HKm.out.cell _ _ _ hS5 hz5 (he5 1 _ rfl)
     have d2 : wr.cell? ⟨b5, o5 + m * 3 + 2, none⟩ = some (.string ⟨x.href.toArray⟩) := HKm.out.cell _ _ _ hS5 hz5 (he5 2 _ rfl)
     have HTm : Hid (F ++ ln.cells.take (m + 1) = F ++ ln.cells.take m ++ [x]) := Lib.hid (by rw [take_some hx, List.append_assoc])
     have HPre : Hid (F ++ ln.cells.take m ++ [x] <+: cellsD d a b) := Lib.hid (by
      rw [← HTm.out, ← HC.out]
      refine List.IsPrefix.trans (l₂ := F ++ ln.cells) ((List.prefix_append_right_inj F).2 (List.take_prefix _ _)) ?_
      rw [← HT.out]
      exact ⟨(P.drop (k + 1)).flatMap (·.cells), by rw [← List.flatMap_append, List.take_append_drop]⟩)
     clear hx5 he5
     have j0 : (0 : Int) ≤ (m : Int) := Int.natCast_nonneg _
     have j1 : (m : Int) < (ln.cells.length : Int) := by omega
     have hb6 : Below wr.heap.size wr (wr.alloc (.cells #[.int .i32 x.r, .int .i64 x.bits, .string ⟨x.href.toArray⟩] 44)) := (Below.refl _ _).alloc (Nat.le_refl _) _
     have HK6 := Lib.hid (HKm.out.go hbase (HKD.out _ _ HKm.out hb6))
     have hYY := HY.out _ x _ (abides_below HJA.out HJm.out hb6) (by rw [List.length_append, List.length_take]; have := HFL.out; omega)
     clear hb6
     unfold celV at hYY
     obtain ⟨fn, tmps, assign, body, hy, hR⟩ := hYY
     gi_wp2_with fail
     refine hR.mono ?_
     rintro e w7 (⟨rfl, hJ7, hk7⟩ | ⟨rfl, hJx7⟩)
     ·have HJ7 := Lib.hid hJ7
      have HK7 := Lib.hid (HK6.out.go hbase hk7)
      have hz7 := HK7.out.size
      clear hJ7 hk7
      rw [← HTm.out] at HJ7
      gi_wp2_with fail
      go_roundw
      case rel => exact ⟨m + 1, by omega, by go_num, HJ7, HK7, hz7⟩
      case measure => simp [intOf]; omega
     ·gi_wp2_with fail
      refine bodyPost_ret (results_none rfl _ _ _) rfl ?_
      exact ⟨⟨_, rfl⟩, .inr ⟨_, HPre.out, hJx7⟩⟩
    ·obtain rfl : m = ln.cells.length := by omega
     rw [List.take_length, ← HT.out] at HJm
     gi_wp2_with fail
     go_roundw
     case rel => exact ⟨k + 1, by omega, by go_num, HJm, HKm, hzm⟩
     case measure => simp [intOf]; omega
  ·obtain rfl : k = P.length := by omega
   rw [List.take_length, HC.out] at HJ
   gi_wp2_with fail
   go_end0
   exact ⟨⟨_, rfl⟩, .inl ⟨_, rfl, HJ.out⟩⟩
end Go.Proofs.YtpndnbjpnajaaaaGreatDoor
namespace Go.Proofs.YtpndnbjpnajaaaaGreatDoor
open Go.RowKit
open Go.Proofs.Qw
attribute [local go_sem] Oper.semAt_some
theorem cels_own {β : Type} (B : Nat) (S : Nat → Prop) (v : Value) (f : β → List Cel) : OwnFrom B (fun (s : β) (W : World) => CelsR true W S v (f s)) := fun s X Y row hs hg hr => by
 cases row with
 | none => exact SliceR.stable (rdOf_stable _) hs ⟨hg.size, fun b _ hz => hg.block b hz (by simp)⟩ (fun _ h _ => h)
 | some k =>
  obtain ⟨_, o, ho, hc⟩ := hr k rfl
  exact SliceR.stable (rdOf_stable _) (SliceR.avoidO hs ho hc) ⟨hg.size, fun b hb hz => hg.block b hz (by intro e; cases e; exact hb.2 rfl)⟩ (fun _ h _ => h.1)
def CI (w : World) (Z : Nat) (pre : List Cel) (W : World) : Prop :=
 ∃ v, W.heap[w.heap.size]? = some (.cells #[v] 40) ∧ CelsR true W (fun b => Z ≤ b) v pre ∧ (v = .slice none 0 0 ∨ pre ≠ []) ∧ Below w.heap.size w W ∧ Z ≤ W.heap.size
theorem ci_own {w : World} {Z B : Nat} (hB : w.heap.size ≤ B) : OwnFrom B (CI w Z) := fun s X Y row ⟨v, h1, h2, h3, h4, h5⟩ hg hr =>
 ⟨v, blk_own B _ _ _ s X Y row h1 hg hr, cels_own B _ v (fun s : List Cel => s) s X Y row h2 hg hr, h3, ownFrom_below (Nat.le_refl _) hB s X Y row h4 hg hr, ownFrom_size B _ s X Y row h5 hg hr⟩
theorem own_block {W : World} {Z : Nat} {v : Value} {xs : List Cel} (h : CelsR true W (fun b => Z ≤ b) v xs) (hne : v = .slice none 0 0 ∨ xs ≠ []) {k : Nat} (hk : k < Z) : v.ownBlock ≠ some k := by
 rcases hne with rfl | hne
 ·intro e; cases e
 ·obtain ⟨x, hx⟩ : ∃ x, xs[0]? = some x := by
   cases xs with
   | nil => exact absurd rfl hne
   | cons x l => exact ⟨x, rfl⟩
  obtain ⟨a, c, rfl, _, _, hxx⟩ := h.shape
  obtain ⟨b, o, vs, rfl, _, hS, _⟩ := hxx 0 x hx
  intro e
  have e : some b = some k := e
  have e2 : b = k := by injection e
  have hS : Z ≤ b := hS
  omega
theorem oneV_cel (c : Cel) : ∀ u ∈ [Value.int .i32 c.r, .int .i64 c.bits, .string ⟨c.href.toArray⟩], u.oneCell' = true := by
 intro u hu
 simp at hu
 rcases hu with rfl | rfl | rfl <;> rfl
set_option maxRecDepth 200000 in
set_option maxHeartbeats 4000000 in
theorem appendSeq_any (Bd Ba Bb : Nat) (v : Value) (d : Doc) (a b : Ps) (w : World) (S : Nat → Prop) (h : LinsR w S v d) (he : EnvT w) (hs : Small d) (hf : Fits d)
  (hD : w.heap[Bd]? = some (.cells #[v] 22)) (hA : w.heap[Ba]? = some (.cells #[.int .i64 a.line, .int .i64 a.col] 24)) (hB : w.heap[Bb]? = some (.cells #[.int .i64 b.line, .int .i64 b.col] 24)) :
  Calls Tryz.prog 154 #[.slice none 0 0, .func (.func 148) #[] #[.pointer (some ⟨Bd, 0, none⟩), .pointer (some ⟨Ba, 0, none⟩), .pointer (some ⟨Bb, 0, none⟩)]] w
   fun e w' => ∃ v', e = .returned v' ∧ CelsR true w' (fun b => w.heap.size ≤ b) v' (cellsD d a b) ∧ Below w.heap.size w w' := by
 obtain ⟨w6, hw6⟩ : ∃ w6, w.alloc (.cells #[.slice none 0 0] 40) = w6 := ⟨_, rfl⟩
 have hb6 : Below w.heap.size w w6 := hw6 ▸ (Below.refl _ _).alloc (Nat.le_refl _) _
 have hz6 : w6.heap.size = w.heap.size + 1 := by rw [← hw6]; simp
 have m0 : w6.heap[w.heap.size]? = some (.cells #[.slice none 0 0] 40) := hw6 ▸ heap_new _ _ rfl
 have HV := Lib.hid h
 have HE := Lib.hid he
 have HS := Lib.hid hs
 have HF := Lib.hid hf
 have HBX := Lib.hid (And.intro hD (And.intro hA hB))
 have HM := Lib.hid m0
 have HL : Hid ((cellsD d a b).length ≤ 100000) := Lib.hid (Nat.le_trans (cellsD_size d a b) hs.1)
 have hCI : CI w w6.heap.size [] w6 := ⟨_, m0, SliceR.nil _ _ _ _ _ _, .inl rfl, hb6, Nat.le_refl _⟩
 obtain ⟨p0, f0⟩ := blk m0
 clear h he hs hf hD hA hB m0
 refine (callsIn_wide (n := 6)).1 ?_
 refine callsIn_of_wp_marks Tryz.func154 rfl trivial ?_ rfl
 simp only [Tryz.ntmps154, List.size_toArray, List.length_cons, List.length_nil, Nat.reduceAdd, Nat.reduceSub, Array.replicate_succ, Array.replicate_zero, List.push_toArray, List.append_toArray, List.nil_append, List.cons_append]
 have hwf : ∀ f, Fence.wide.fn f := fun _ => trivial
 have hwd : Fence.wide.depth = none := rfl
 gi_wp2_with fail
 clear hw6 p0 f0
 refine rangeFunc_boxD rfl (by omega) (gf := 148) (lb := #[.pointer (some ⟨Bd, 0, none⟩), .pointer (some ⟨Ba, 0, none⟩), .pointer (some ⟨Bb, 0, none⟩)]) rfl trivial (enters_of Tryz.func148 (by kernel_rfl) rfl)
  (encs := fun c : Cel => #[celV c]) (n₀ := w.heap.size) (base := w6.heap.size) (Bs := w.heap.size) (S := fun ys => ys = cellsD d a b) (Sp := fun pre => pre <+: cellsD d a b) (N := 200000) (w0 := w6) ?seq (by omega) (by omega) (Below.refl _ _) (fun _ => rfl)
  (CI w w6.heap.size) (fun _ _ _ => False) (ci_own (by omega)) (fun _ _ _ _ _ hs _ _ => hs) hCI (fun _ _ ⟨_, _, _, _, _, h⟩ => h)
  (fun x => #[.int .i32 x.r, .int .i64 x.bits, .string ⟨x.href.toArray⟩]) 44 ?act ?assign ?body ?done ?stop
 case seq =>
  intro l J Jx W hW hJ _ hY h0
  have hb0 := hb6.trans (hW.mono hb6.size)
  exact selected1_in 5 l Bd Ba Bb w6.heap.size w.heap.size v d a b S J Jx w W HV.out HE.out HS.out HF.out hb0 hW.size (heap_below hb0 HBX.out.1) (heap_below hb0 HBX.out.2.1) (heap_below hb0 HBX.out.2.2) (by have := hW.size; omega)
   (by unfold ownAt; rw [cell_of_heap (heap_below hW HM.out)]; rfl) hJ hY h0
 case assign =>
  intro l pre x W K Bx hBx hI hK
  unfold celV
  gi_wp2
  rw [← hBx]
  exact hK
 case body =>
  intro l pre x Bx W hI hBx hbx hlt
  obtain ⟨v0, t0, hR, hne, hb, hz⟩ := hI
  obtain ⟨s0, s0f⟩ := blk t0
  obtain ⟨sx, sxf⟩ := blk hbx
  have HA := Lib.hid (And.intro t0 hbx)
  have hb7 : ∀ ob, Below W.heap.size W (W.alloc ob) := fun ob => (Below.refl _ _).alloc (Nat.le_refl _) _
  have HB7 := Lib.hid hb7
  have HR7 : Hid (∀ ob, CelsR true (W.alloc ob) (fun b => w6.heap.size ≤ b) v0 pre) := Lib.hid fun ob => SliceR.below (rdOf_stable _) hR (hb7 ob)
  have HZ7 : Hid (∀ ob, w6.heap.size ≤ (W.alloc ob).heap.size) := Lib.hid fun ob => Nat.le_trans hz (hb7 ob).size
  have HM7 : Hid (∀ ob, (W.alloc ob).heap[w.heap.size]? = some (.cells #[v0] 40)) := Lib.hid fun ob => heap_below (hb7 ob) t0
  have HNE := Lib.hid hne
  have HOB : Hid (v0.ownBlock ≠ some w.heap.size) := Lib.hid (own_block hR hne (by omega))
  have HIN := Lib.hid (And.intro hb hz)
  have hl7 : pre.length + 1 ≤ 100000000 := by omega
  have HN7 : Hid (∀ ob, NewsR 3 (rdOf encCel) (W.alloc ob) (fun b => w6.heap.size ≤ b) [.int .i32 x.r, .int .i64 x.bits, .string ⟨x.href.toArray⟩] [x]) := Lib.hid fun ob => NewsR.one rfl rfl
  have hw2Z : w.heap.size < w6.heap.size := by omega
  obtain ⟨va0, na0, ca0, hva0⟩ := slice_any hR
  subst hva0
  clear hR hne hb hz hb7 t0 hbx
  gi_wp2_with (gi_at_builtin; go_must (refine wpListIn_append_R _ rfl _ _ 40 40 rfl rowCell eltCell w6.heap.size (.slice va0 na0 ca0) _ (xs := pre) (ys := [x]) (news := [.int .i32 x.r, .int .i64 x.bits, .string ⟨x.href.toArray⟩]) rfl rfl (HR7.out _) (HZ7.out _) (src_at rowCell W _ rfl (oneV_cel _) 1 rfl) (HN7.out _) hl7 ?_); intro v' w8 hR8 hB8 hG8 hO8; obtain ⟨a8, n8, c8, hv8⟩ := slice_any hR8; subst hv8; have HR8 := Lib.hid hR8; have HB8 := Lib.hid hB8; have HG8 := Lib.hid hG8; have HO8 := Lib.hid hO8; have m8 := (hB8.block _ hw2Z).trans (HM7.out _); obtain ⟨r8, s8⟩ := blk m8; clear hR8 hB8 hG8 hO8)
  have hb7 := HB7.out (.cells #[.int .i32 x.r, .int .i64 x.bits, .string ⟨x.href.toArray⟩] 44)
  have hwW := HIN.out.1.size
  have hz8 := HB8.out.size
  have hz7 := HZ7.out (.cells #[.int .i32 x.r, .int .i64 x.bits, .string ⟨x.href.toArray⟩] 44)
  have hWz := HIN.out.2
  refine ⟨((keeps_below hb7).from _).trans (((append_keeps (HR7.out _) HNE.out HG8.out).from _).trans ((KeepsOthers.setCell _ _ _).from _)), (Kd.of_below hwW (by omega) hb7).t (Kd.append (HM7.out _) HOB.out HG8.out (HB8.out.mono (by omega)) HO8.out (Nat.le_refl _) hw2Z), _, ?_, SliceR.stable (rdOf_stable _) HR8.out ((Keeps.refl _ _).set (fun hh => by have hh : w6.heap.size ≤ w.heap.size := hh; omega) _) (fun _ h _ => h), .inr (by simp), ?_, ?_⟩
  ·rw [heap_set, if_pos rfl, m8]; rfl
  ·exact ((below_from HIN.out.1 hb7).trans (HB8.out.mono (by omega))).setCell (Nat.le_refl _) _
  ·simp only [World.size_setCell]; omega
 case done =>
  rintro D ys W hD hys ⟨v9, t0, hR, hne, hb, hz⟩ hK
  obtain ⟨s0, s0f⟩ := blk t0
  subst hys
  obtain ⟨va9, n9, c9, rfl⟩ := slice_any hR
  have HR9 := Lib.hid hR
  have HB9 := Lib.hid hb
  have HK9 := Lib.hid hK
  clear hR hb hK hne
  gi_wp2_with fail
  refine ⟨by simp, .inl ⟨_, _, rfl, run_takeDeferred HK9.out, ?_⟩⟩
  refine ⟨.slice va9 n9 c9, by simp [results, Tryz.results154, go_sem], ?_⟩
  exact ⟨_, rfl, SliceR.stable (rdOf_stable _) ((cels_own (β := Unit) D _ _ (fun _ => cellsD d a b)).putObj (s := ()) _ HR9.out (Nat.le_refl _) HK9.out rfl) (Keeps.refl _ _) (fun b h _ => Nat.le_trans hb6.size h), HB9.out.trans (belowK_b (w := w) (Nat.le_refl _) W D _ _ (by omega) HK9.out rfl rfl)⟩
 case stop =>
  rintro D c pre W _ _ h _
  exact h.elim
theorem collect_any (Bd Ba Bb : Nat) (v : Value) (d : Doc) (a b : Ps) (w : World) (S : Nat → Prop) (h : LinsR w S v d) (he : EnvT w) (hs : Small d) (hf : Fits d)
  (hD : w.heap[Bd]? = some (.cells #[v] 22)) (hA : w.heap[Ba]? = some (.cells #[.int .i64 a.line, .int .i64 a.col] 24)) (hB : w.heap[Bb]? = some (.cells #[.int .i64 b.line, .int .i64 b.col] 24)) :
  Calls Tryz.prog 85 #[.func (.func 148) #[] #[.pointer (some ⟨Bd, 0, none⟩), .pointer (some ⟨Ba, 0, none⟩), .pointer (some ⟨Bb, 0, none⟩)]] w
   fun e w' => ∃ v', e = .returned v' ∧ CelsR true w' (fun b => w.heap.size ≤ b) v' (cellsD d a b) ∧ Below w.heap.size w w' := by
 have HC := Lib.hid (appendSeq_any Bd Ba Bb v d a b w S h he hs hf hD hA hB)
 clear h he hs hf hD hA hB
 generalize cellsD d a b = L at *
 go_enter Tryz.func85, Tryz.ntmps85
 go_wp2_with (go_at_call 154; refine HC.out.mono ?_; rintro e w2 ⟨v2, rfl, hv2, hb2⟩; obtain ⟨a2, n2, c2, hve⟩ := slice_any hv2; subst hve; have HV2 := Lib.hid hv2; clear hv2)
 go_ret
 exact ⟨_, rfl, HV2.out, hb2⟩
end Go.Proofs.YtpndnbjpnajaaaaGreatDoor
namespace Go.Proofs.YtpndnbjpnajaaaaGreatDoor
open Go.RowKit
open Go.Proofs.Qw
set_option maxRecDepth 100000 in
set_option maxHeartbeats 4000000 in
theorem stMay_any (v : Value) (s : St) (w : World) (S : Nat → Prop) (h : LinsR w S v s.lines) (he : EnvT w) (hs : Small s.lines) :
  Calls Tryz.prog 27 #[stV v s] w fun e w' => e = .returned (.bool (mayS s)) ∧ Below w.heap.size w w' := by
 obtain ⟨W1, hW1, hB, hz, hA⟩ := one_st w v s
 have hs1 := hB.size
 have HC1 := Lib.hid (docMay_any v s.lines W1 w S h (he.below hB) hB hs)
 have HC2 : Hid (∀ p : Ps, ∀ W, Below W1.heap.size W1 W → Calls Tryz.prog 91 #[v, .agg #[.int .i64 p.line, .int .i64 p.col]] W fun e w' => e = .returned (.bool (isD s.lines p)) ∧ Below W.heap.size W w') := Lib.hid fun p W hW => is_any v s.lines p W w S h (hB.trans (hW.mono hs1))
 have HB : Hid (∀ W, Below W1.heap.size W1 W → W.heap[w.heap.size]? = some (.cells #[v, .int .i64 s.anc.line, .int .i64 s.anc.col, .int .i64 s.foc.line, .int .i64 s.foc.col, .int .i64 s.on, .int .i64 s.off] 26)) := Lib.hid fun W hW => heap_below hW hA
 have HE : Hid (mayS s = (mayD s.lines && (isD s.lines s.anc && (isD s.lines s.foc && (bits .andNot .i64 s.on 15 == 0 && (bits .andNot .i64 s.off 15 == 0 && bits .and .i64 s.on s.off == 0)))))) := Lib.hid rfl
 have H1 := Lib.hid hB
 obtain ⟨p0, f0⟩ := blk hA
 obtain ⟨va, vc, rfl⟩ := h.slice
 clear h he hs hz hA hB
 generalize mayS s = r at *
 generalize mayD s.lines = x at *
 go_enter Tryz.func27, Tryz.ntmps27
 go_wp2_with (first
  | (go_at_call 90; refine HC1.out.mono ?_; rintro e w2 ⟨rfl, hb2⟩; obtain ⟨p3, f3⟩ := blk (HB.out _ hb2); cases x)
  | (go_at_call 91; refine (HC2.out _ _ (by assumption)).mono ?_; rintro e w3 ⟨rfl, hb3⟩; have hx3 : Below W1.heap.size W1 w3 := below_from (by assumption) hb3; clear hb3; obtain ⟨p5, f5⟩ := blk (HB.out _ hx3)))
 all_goals
  go_ret
  refine ⟨?_, H1.out.trans (Below.mono (by assumption) hs1)⟩
  rw [HE.out]
  refine congrArg Ending.returned (congrArg Value.bool ?_)
  clear HE HC1 HC2 HB H1
  simp (config := { failIfUnchanged := false }) [*]
end Go.Proofs.YtpndnbjpnajaaaaGreatDoor
namespace Go.Proofs.YtpndnbjpnajaaaaGreatDoor
open Go.RowKit
open Go.Proofs.Qw
set_option maxRecDepth 100000 in
set_option maxHeartbeats 4000000 in
theorem stSpan_any (v : Value) (s : St) (w : World) :
  Calls Tryz.prog 28 #[stV v s] w fun e w' => e = .returned (.tuple #[.agg #[.int .i64 (spanS s).1.line, .int .i64 (spanS s).1.col], .agg #[.int .i64 (spanS s).2.line, .int .i64 (spanS s).2.col]]) ∧ Below w.heap.size w w' := by
 obtain ⟨W1, hW1, hB, hz, k0, k1, k2⟩ := st_pos2 w v s
 have hs1 := hB.size
 have HC : Hid (Calls Tryz.prog 92 #[.agg #[.int .i64 s.anc.line, .int .i64 s.anc.col], .agg #[.int .i64 s.foc.line, .int .i64 s.foc.col]] W1 fun e w' => e = .returned (.int .i64 (cmpP s.anc s.foc)) ∧ Below W1.heap.size W1 w') := Lib.hid (cmp_any s.anc s.foc W1)
 have HR : Hid (spanS s = if 0 < cmpP s.anc s.foc then (s.foc, s.anc) else (s.anc, s.foc)) := Lib.hid (by unfold spanS; first | rfl | simp only [cmpP_lt])
 have HB : Hid (∀ W, Below W1.heap.size W1 W → W.heap[w.heap.size]? = some (.cells #[v, .int .i64 s.anc.line, .int .i64 s.anc.col, .int .i64 s.foc.line, .int .i64 s.foc.col, .int .i64 s.on, .int .i64 s.off] 26) ∧ W.heap[w.heap.size + 1]? = some (.cells #[.int .i64 0, .int .i64 0] 24) ∧ W.heap[w.heap.size + 2]? = some (.cells #[.int .i64 0, .int .i64 0] 24)) := Lib.hid fun W hW => ⟨heap_below hW k0, heap_below hW k1, heap_below hW k2⟩
 have H1 := Lib.hid hB
 obtain ⟨p0, f0⟩ := blk k0
 clear k0 k1 k2 hB
 generalize cmpP s.anc s.foc = r at *
 by_cases hr : 0 < r
 ·rw [if_pos hr] at HR
  have hr' := decide_eq_true hr
  have HR' := Lib.hid HR.out
  clear HR
  go_enter Tryz.func28, Tryz.ntmps28
  go_wp2_with (go_at_call 92; refine HC.out.mono ?_; rintro e w2 ⟨rfl, hb2⟩; obtain ⟨q0, g0⟩ := blk (HB.out _ hb2).1; obtain ⟨q1, g1⟩ := blk (HB.out _ hb2).2.1; obtain ⟨q2, g2⟩ := blk (HB.out _ hb2).2.2)
  go_region
  go_wp2_with fail
  refine bodyPost_ret (results_two_pos rfl _ _ (w.heap.size + 1) (w.heap.size + 2) (.int .i64 s.foc.line) (.int .i64 s.foc.col) (.int .i64 s.anc.line) (.int .i64 s.anc.col) rfl rfl (by change (World.setCell _ _ _).heap[_]? = _; simp [heap_set, putIn, (HB.out _ hb2).2.1]) (by change (World.setCell _ _ _).heap[_]? = _; simp [heap_set, putIn, (HB.out _ hb2).2.2])) rfl ?_
  rw [HR'.out]
  have hfin := H1.out.trans (hb2.mono hs1)
  exact ⟨rfl, by (repeat' (first | (with_reducible exact Below.refl _ _) | (with_reducible assumption) | (with_reducible refine Below.alloc ?_ ?_ _) | (with_reducible refine Below.drew ?_) | (with_reducible refine drewN_below ?_) | (with_reducible refine Below.setCell ?_ ?_ _) | go_size))⟩
 ·rw [if_neg hr] at HR
  have hr' := decide_eq_false hr
  have HR' := Lib.hid HR.out
  clear HR
  go_enter Tryz.func28, Tryz.ntmps28
  go_wp2_with (go_at_call 92; refine HC.out.mono ?_; rintro e w2 ⟨rfl, hb2⟩; obtain ⟨q0, g0⟩ := blk (HB.out _ hb2).1; obtain ⟨q1, g1⟩ := blk (HB.out _ hb2).2.1; obtain ⟨q2, g2⟩ := blk (HB.out _ hb2).2.2)
  go_region
  go_wp2_with fail
  refine bodyPost_ret (results_two_pos rfl _ _ (w.heap.size + 1) (w.heap.size + 2) (.int .i64 s.anc.line) (.int .i64 s.anc.col) (.int .i64 s.foc.line) (.int .i64 s.foc.col) rfl rfl (by change (World.setCell _ _ _).heap[_]? = _; simp [heap_set, putIn, (HB.out _ hb2).2.1]) (by change (World.setCell _ _ _).heap[_]? = _; simp [heap_set, putIn, (HB.out _ hb2).2.2])) rfl ?_
  rw [HR'.out]
  have hfin := H1.out.trans (hb2.mono hs1)
  exact ⟨rfl, by (repeat' (first | (with_reducible exact Below.refl _ _) | (with_reducible assumption) | (with_reducible refine Below.alloc ?_ ?_ _) | (with_reducible refine Below.drew ?_) | (with_reducible refine drewN_below ?_) | (with_reducible refine Below.setCell ?_ ?_ _) | go_size))⟩
set_option maxRecDepth 100000 in
set_option maxHeartbeats 4000000 in
theorem refStSpan_any (v : Value) (s : St) (w : World) :
  Calls Tryz.prog 69 #[stV v s] w fun e w' => e = .returned (.tuple #[.agg #[.int .i64 (spanS s).1.line, .int .i64 (spanS s).1.col], .agg #[.int .i64 (spanS s).2.line, .int .i64 (spanS s).2.col]]) ∧ Below w.heap.size w w' := by
 obtain ⟨W1, hW1, hB, hz, k0, k1, k2⟩ := st_pos2 w v s
 have hs1 := hB.size
 have HC : Hid (Calls Tryz.prog 32 #[.agg #[.int .i64 s.foc.line, .int .i64 s.foc.col], .agg #[.int .i64 s.anc.line, .int .i64 s.anc.col]] W1 fun e w' => e = .returned (.int .i64 (cmpP s.foc s.anc)) ∧ Below W1.heap.size W1 w') := Lib.hid (refCmp_any s.foc s.anc W1)
 have HR : Hid (spanS s = if cmpP s.foc s.anc < 0 then (s.foc, s.anc) else (s.anc, s.foc)) := Lib.hid (by unfold spanS; first | rfl | simp only [cmpP_lt])
 have HB : Hid (∀ W, Below W1.heap.size W1 W → W.heap[w.heap.size]? = some (.cells #[v, .int .i64 s.anc.line, .int .i64 s.anc.col, .int .i64 s.foc.line, .int .i64 s.foc.col, .int .i64 s.on, .int .i64 s.off] 26) ∧ W.heap[w.heap.size + 1]? = some (.cells #[.int .i64 0, .int .i64 0] 24) ∧ W.heap[w.heap.size + 2]? = some (.cells #[.int .i64 0, .int .i64 0] 24)) := Lib.hid fun W hW => ⟨heap_below hW k0, heap_below hW k1, heap_below hW k2⟩
 have H1 := Lib.hid hB
 obtain ⟨p0, f0⟩ := blk k0
 clear k0 k1 k2 hB
 generalize cmpP s.foc s.anc = r at *
 by_cases hr : r < 0
 ·rw [if_pos hr] at HR
  have hr' := decide_eq_true hr
  have HR' := Lib.hid HR.out
  clear HR
  go_enter Tryz.func69, Tryz.ntmps69
  go_wp2_with (go_at_call 32; refine HC.out.mono ?_; rintro e w2 ⟨rfl, hb2⟩; obtain ⟨q0, g0⟩ := blk (HB.out _ hb2).1; obtain ⟨q1, g1⟩ := blk (HB.out _ hb2).2.1; obtain ⟨q2, g2⟩ := blk (HB.out _ hb2).2.2)
  go_region
  go_wp2_with fail
  refine bodyPost_ret (results_two_pos rfl _ _ (w.heap.size + 1) (w.heap.size + 2) (.int .i64 s.foc.line) (.int .i64 s.foc.col) (.int .i64 s.anc.line) (.int .i64 s.anc.col) rfl rfl (by change (World.setCell _ _ _).heap[_]? = _; simp [heap_set, putIn, (HB.out _ hb2).2.1]) (by change (World.setCell _ _ _).heap[_]? = _; simp [heap_set, putIn, (HB.out _ hb2).2.2])) rfl ?_
  rw [HR'.out]
  have hfin := H1.out.trans (hb2.mono hs1)
  exact ⟨rfl, by (repeat' (first | (with_reducible exact Below.refl _ _) | (with_reducible assumption) | (with_reducible refine Below.alloc ?_ ?_ _) | (with_reducible refine Below.drew ?_) | (with_reducible refine drewN_below ?_) | (with_reducible refine Below.setCell ?_ ?_ _) | go_size))⟩
 ·rw [if_neg hr] at HR
  have hr' := decide_eq_false hr
  have HR' := Lib.hid HR.out
  clear HR
  go_enter Tryz.func69, Tryz.ntmps69
  go_wp2_with (go_at_call 32; refine HC.out.mono ?_; rintro e w2 ⟨rfl, hb2⟩; obtain ⟨q0, g0⟩ := blk (HB.out _ hb2).1; obtain ⟨q1, g1⟩ := blk (HB.out _ hb2).2.1; obtain ⟨q2, g2⟩ := blk (HB.out _ hb2).2.2)
  go_region
  go_wp2_with fail
  refine bodyPost_ret (results_two_pos rfl _ _ (w.heap.size + 1) (w.heap.size + 2) (.int .i64 s.anc.line) (.int .i64 s.anc.col) (.int .i64 s.foc.line) (.int .i64 s.foc.col) rfl rfl (by change (World.setCell _ _ _).heap[_]? = _; simp [heap_set, putIn, (HB.out _ hb2).2.1]) (by change (World.setCell _ _ _).heap[_]? = _; simp [heap_set, putIn, (HB.out _ hb2).2.2])) rfl ?_
  rw [HR'.out]
  have hfin := H1.out.trans (hb2.mono hs1)
  exact ⟨rfl, by (repeat' (first | (with_reducible exact Below.refl _ _) | (with_reducible assumption) | (with_reducible refine Below.alloc ?_ ?_ _) | (with_reducible refine Below.drew ?_) | (with_reducible refine drewN_below ?_) | (with_reducible refine Below.setCell ?_ ?_ _) | go_size))⟩
end Go.Proofs.YtpndnbjpnajaaaaGreatDoor
namespace Go.Proofs.Qw
open Go.RowKit Go.Proofs.YtpndnbjpnajaaaaGreatDoor
section
variable {P : Program} {ops : Array Oper} {C : World → Prop} {K : Act → Prop} {a : Act} {o : Oper}
abbrev Grew (n : Nat) (w : World) : World → Prop := fun W => Below n w W
theorem wp_region_grew {id : Nat} {Q : Exit → Act → World → Prop} {a : Act} {w : World} {l : List Oper} (n : Nat) (hm : P.follows .mixedOrders = true) (hB : Region.lexB .any l.toArray = true)
  (h : wpQuiet P l.toArray (Grew n w) (fun a' => ∀ w', Below n w w' → Q .normal a' w') l a) : (Code.region id l.toArray true).wp P Q a w :=
 wp_region_quiet (C := Grew n w) hm hB ((Below.refl n w).drew) (by simpa using h)
theorem quiet_val (v : Value) (h : ∀ W, C W → (execOp a.eval o).run P W = .ok (.value v) W) (hk : K (a.put o.dst v)) : o.quiet P a C K :=
 ⟨v, fun W hW => by unfold Oper.quietAt; rw [h W hW]; exact ⟨rfl, rfl⟩, hk⟩
theorem quiet_calls (v : Value) {f : FuncId} {args : Array Value} (h : ∀ W, C W → (execOp a.eval o).run P W = .ok (.enter f args) W) (hc : ∀ W, C W → Calls P f args W fun e W' => e = .returned v ∧ C W') (hk : K (a.put o.dst v)) : o.quiet P a C K :=
 ⟨v, fun W hW => by unfold Oper.quietAt; rw [h W hW]; exact ⟨rfl, hc W hW⟩, hk⟩
end
end Go.Proofs.Qw
namespace Go.Proofs.YtpndnbjpnajaaaaGreatDoor
open Go.RowKit
open Go.Proofs.Qw
theorem run_neq_pos (p q : Ps) (w : World) : (binOp .neq 24 (.agg #[.int .i64 p.line, .int .i64 p.col]) (.agg #[.int .i64 q.line, .int .i64 q.col])).run Tryz.prog w = .ok (.bool (!decide (p = q))) w := by
 have h1 : Tryz.prog.stoodInHeld 24 = false := by kernel_rfl
 have h2 : Tryz.prog.underlying 24 = some (.struct (Tryz.prog.fieldsOf 24)) := by kernel_rfl
 rw [run_neq_struct, show (10000:Nat) = 9999 + 1 from rfl, run_equalIn_agg _ _ _ _ _ h2 h1]
 simp [Tryz.underlying24, go_sem]
 obtain ⟨a, b⟩ := p
 obtain ⟨d, e⟩ := q
 simp only [Ps.mk.injEq]
 by_cases e1 : a = d <;> by_cases e2 : b = e <;> simp [e1, e2]
end Go.Proofs.YtpndnbjpnajaaaaGreatDoor
namespace Go.Proofs.YtpndnbjpnajaaaaGreatDoor
open Go.RowKit
open Go.Proofs.Qw
set_option maxRecDepth 100000 in
set_option maxHeartbeats 4000000 in
theorem styOpen_any (v : Value) (s : St) (w : World) :
  Calls Tryz.prog 75 #[stV v s] w fun e w' => e = .returned (.bool (!decide (s.anc = s.foc))) ∧ Below w.heap.size w w' := by
 obtain ⟨W1, hW1, hB, hz, k0⟩ := one_st w v s
 have HB : Hid (∀ W, Below W1.heap.size W1 W → W.heap[w.heap.size]? = some (.cells #[v, .int .i64 s.anc.line, .int .i64 s.anc.col, .int .i64 s.foc.line, .int .i64 s.foc.col, .int .i64 s.on, .int .i64 s.off] 26)) := Lib.hid fun W hW => heap_below hW k0
 have hs1 := hB.size
 have H1 := Lib.hid hB
 have hw0 : Below W1.heap.size W1 W1 := Below.refl _ _
 have hg := guardPos
 have hq := fun (w : World) => run_neq_pos s.anc s.foc w
 obtain ⟨p0, f0⟩ := blk k0
 generalize decide (s.anc = s.foc) = r at *
 clear k0 hB
 go_enter Tryz.func75, Tryz.ntmps75
 go_wp2_with fail
 go_ret
 exact ⟨rfl, H1.out⟩
theorem place_at {d : Doc} {p : Ps} (h : isD d p = true) : ∃ (i k : Nat) (l : Lin), p.line = i ∧ p.col = k ∧ d[i]? = some l ∧ (d.getD p.line.toNat default).cells = l.cells ∧ p.col.toNat = k ∧ k ≤ l.cells.length := by
 obtain ⟨a, b⟩ := p
 simp only [isD, Bool.and_eq_true, decide_eq_true_eq] at h
 obtain ⟨⟨⟨h1, h2⟩, h3⟩, h4⟩ := h
 obtain ⟨i, rfl⟩ := Int.eq_ofNat_of_zero_le h1
 obtain ⟨k, rfl⟩ := Int.eq_ofNat_of_zero_le h3
 obtain ⟨l, hl, _⟩ := getOf d i (by omega)
 have hg : d.getD i default = l := by rw [List.getD, hl]; rfl
 rw [Int.toNat_natCast] at h4 ⊢
 rw [hg] at h4 ⊢
 exact ⟨i, k, l, rfl, rfl, hl, rfl, Int.toNat_natCast _, by omega⟩
set_option maxRecDepth 100000 in
set_option maxHeartbeats 4000000 in
theorem styAt_any (v : Value) (s : St) (w : World) (S : Nat → Prop) (h : LinsR w S v s.lines) (hf : Fits s.lines) (hc : s.anc = s.foc) (hm : isD s.lines s.anc = true) :
  Calls Tryz.prog 153 #[stV v s] w fun e w' => e = .returned (.tuple #[.agg #[.int .i64 s.anc.line, .int .i64 (withinF (cellsAt s) s.anc.col.toNat).1], .agg #[.int .i64 s.anc.line, .int .i64 (withinF (cellsAt s) s.anc.col.toNat).2]]) ∧ Below w.heap.size w w' := by
 obtain ⟨W1, hW1, hB, hz, k0, k1, k2⟩ := st_pos2 w v s
 have HB : Hid (∀ W, Below W1.heap.size W1 W → W.heap[w.heap.size]? = some (.cells #[v, .int .i64 s.anc.line, .int .i64 s.anc.col, .int .i64 s.foc.line, .int .i64 s.foc.col, .int .i64 s.on, .int .i64 s.off] 26) ∧ W.heap[w.heap.size + 1]? = some (.cells #[.int .i64 0, .int .i64 0] 24) ∧ W.heap[w.heap.size + 2]? = some (.cells #[.int .i64 0, .int .i64 0] 24)) := Lib.hid fun W hW => ⟨heap_below hW k0, heap_below hW k1, heap_below hW k2⟩
 have hs1 := hB.size
 have H1 := Lib.hid hB
 have hw0 : Below W1.heap.size W1 W1 := Below.refl _ _
 have HV : Hid (∀ W, Below W1.heap.size W1 W → LinsR W S v s.lines) := Lib.hid fun W hW => h.below (rdLin_stable _) (hB.trans (hW.mono hs1))
 have HS : Hid (∀ W, Below W1.heap.size W1 W → Calls Tryz.prog 28 #[stV v s] W fun e w' => e = .returned (.tuple #[.agg #[.int .i64 s.anc.line, .int .i64 s.anc.col], .agg #[.int .i64 s.anc.line, .int .i64 s.anc.col]]) ∧ Below W.heap.size W w') := Lib.hid fun W _ => by
  have := stSpan_any v s W
  rw [spanS_closed hc] at this
  exact this
 obtain ⟨i, n, l, hi, hn, hl, hcl, hnn, hnl⟩ := place_at hm
 have hc1 : (withinF (cellsAt s) s.anc.col.toNat) = withinF l.cells n := by unfold cellsAt; rw [hcl, hnn]
 obtain ⟨x, y, hxy⟩ : ∃ x y, withinF l.cells n = (x, y) := ⟨_, _, rfl⟩
 rw [hc1, hxy]
 have HXY := Lib.hid hxy
 have hfl := (hf.2 l (List.mem_of_getElem? hl)).2
 have hil := (List.getElem?_eq_some_iff.1 hl).1
 obtain ⟨va, vc, rfl, hvc, hvm, hx⟩ := lins_shape h
 obtain ⟨b, o, la, lc, ca, cc, rfl, hAt⟩ := hx i l hl
 have HAT : Hid (∀ W, Below W1.heap.size W1 W → LinAt W S b (o + i * 4) l la lc ca cc) := Lib.hid fun W hW => hAt.below (hB.trans (hW.mono hs1))
 unfold maxLen at hvm
 have i0 : (0 : Int) ≤ (i : Int) := Int.natCast_nonneg _
 have i1 : (i : Int) < (s.lines.length : Int) := by omega
 obtain ⟨p0, f0⟩ := blk k0
 obtain ⟨lines, anc, foc, on, off⟩ := s
 obtain ⟨al, ac⟩ := anc
 simp only at hi hn hc
 subst hi hn hc
 clear h hf hm hcl hnn hc1 hxy hl hx hAt k0 k1 k2 hB
 go_enter Tryz.func153, Tryz.ntmps153
 go_wp2_with (go_at_call 28; refine (HS.out _ hw0).mono ?_; rintro e w2 ⟨rfl, hb2⟩; obtain ⟨q0, g0⟩ := blk (HB.out _ hb2).1)
 obtain ⟨w3, hw3⟩ : ∃ w3, (w2.alloc (.cells #[.int .i64 i, .int .i64 n] 24)).alloc (.cells #[.int .i64 i, .int .i64 n] 24) = w3 := ⟨_, rfl⟩
 rw [hw3]
 have hb23 : Below w2.heap.size w2 w3 := hw3 ▸ ((Below.refl _ _).alloc (Nat.le_refl _) _).alloc (by simp) _
 have n3 : w3.heap[w2.heap.size]? = some (.cells #[.int .i64 i, .int .i64 n] 24) := hw3 ▸ heap_old _ _ (heap_new _ _ rfl)
 have hb3 := below_from hb2 hb23
 have HB3 : Hid (∀ W, Below w3.heap.size w3 W → W.heap[w2.heap.size]? = some (.cells #[.int .i64 i, .int .i64 n] 24)) := Lib.hid fun W hW => heap_below hW n3
 have HWi : Hid (∀ W, Below w3.heap.size w3 W → Calls Tryz.prog 207 #[.slice ca l.cells.length cc, .int .i64 n] W fun e w' => e = .returned (.tuple #[.int .i64 x, .int .i64 y]) ∧ Below W.heap.size W w') := Lib.hid fun W hW => by
  have := within_any _ l.cells n W S (HAT.out W (below_from hb3 hW)).cellsR hnl hfl
  rw [HXY.out] at this
  exact this
 clear n3 q0 g0 p0 f0 hw3
 refine wp_region_grew w3.heap.size (by kernel_rfl) (by kernel_rfl) ?_
 refine BigFrame.wpQuiet_want (by kernel_rfl) (fun K hK => ?_)
 refine quiet_val ?_ (fun W hW => ?_) (hK _ ?_)
 rotate_left 1
 ·skip
  go_simp
  try rfl
 clear hK
 clear K
 try simp only [Act.put, qI, qX, qY]
 refine BigFrame.wpQuiet_want (by kernel_rfl) (fun K hK => ?_)
 refine quiet_val ?_ (fun W hW => ?_) (hK _ ?_)
 rotate_left 1
 ·skip
  obtain ⟨p0, f0⟩ := blk (HB.out _ (below_from hb3 hW)).1
  obtain ⟨p3, f3⟩ := blk (HB3.out _ hW)
  obtain ⟨_, _, _, _, c3, _, _⟩ := HAT.out _ (below_from hb3 hW)
  go_simp
  try rfl
 clear hK
 clear K
 try simp only [Act.put, qI, qX, qY]
 refine BigFrame.wpQuiet_want (by kernel_rfl) (fun K hK => ?_)
 refine quiet_val ?_ (fun W hW => ?_) (hK _ ?_)
 rotate_left 1
 ·skip
  go_simp
  try rfl
 clear hK
 clear K
 try simp only [Act.put, qI, qX, qY]
 refine BigFrame.wpQuiet_want (by kernel_rfl) (fun K hK => ?_)
 refine quiet_val ?_ (fun W hW => ?_) (hK _ ?_)
 rotate_left 1
 ·skip
  obtain ⟨p0, f0⟩ := blk (HB.out _ (below_from hb3 hW)).1
  obtain ⟨p3, f3⟩ := blk (HB3.out _ hW)
  obtain ⟨_, _, _, _, c3, _, _⟩ := HAT.out _ (below_from hb3 hW)
  go_simp
  try rfl
 clear hK
 clear K
 try simp only [Act.put, qI, qX, qY]
 refine BigFrame.wpQuiet_want (by kernel_rfl) (fun K hK => ?_)
 refine quiet_val ?_ (fun W hW => ?_) (hK _ ?_)
 rotate_left 1
 ·skip
  go_simp
  try rfl
 clear hK
 clear K
 try simp only [Act.put, qI, qX, qY]
 refine BigFrame.wpQuiet_want (by kernel_rfl) (fun K hK => ?_)
 refine quiet_val ?_ (fun W hW => ?_) (hK _ ?_)
 rotate_left 1
 ·skip
  go_simp
  try rfl
 clear hK
 clear K
 try simp only [Act.put, qI, qX, qY]
 refine BigFrame.wpQuiet_want (by kernel_rfl) (fun K hK => ?_)
 refine quiet_val ?_ (fun W hW => ?_) (hK _ ?_)
 rotate_left 1
 ·skip
  obtain ⟨p0, f0⟩ := blk (HB.out _ (below_from hb3 hW)).1
  obtain ⟨p3, f3⟩ := blk (HB3.out _ hW)
  obtain ⟨_, _, _, _, c3, _, _⟩ := HAT.out _ (below_from hb3 hW)
  go_simp
  try rfl
 clear hK
 clear K
 try simp only [Act.put, qI, qX, qY]
 refine BigFrame.wpQuiet_want (by kernel_rfl) (fun K hK => ?_)
 refine quiet_val ?_ (fun W hW => ?_) (hK _ ?_)
 rotate_left 1
 ·skip
  go_simp
  try rfl
 clear hK
 clear K
 try simp only [Act.put, qI, qX, qY]
 refine BigFrame.wpQuiet_want (by kernel_rfl) (fun K hK => ?_)
 refine quiet_val ?_ (fun W hW => ?_) (hK _ ?_)
 rotate_left 1
 ·skip
  obtain ⟨p0, f0⟩ := blk (HB.out _ (below_from hb3 hW)).1
  obtain ⟨p3, f3⟩ := blk (HB3.out _ hW)
  obtain ⟨_, _, _, _, c3, _, _⟩ := HAT.out _ (below_from hb3 hW)
  go_simp
  try rfl
 clear hK
 clear K
 try simp only [Act.put, qI, qX, qY]
 refine BigFrame.wpQuiet_want (by kernel_rfl) (fun K hK => ?_)
 refine quiet_calls (f := ?_) (args := ?_) ?_ (fun W hW => ?_) (fun W hW => ?_) (hK _ ?_)
 rotate_left 3
 ·go_simp
  constructor <;> rfl
 ·refine (HWi.out _ hW).mono ?_
  rintro e W2 ⟨rfl, hbW⟩
  refine ⟨?_, below_from hW hbW⟩
  rfl
 clear hK
 clear K
 try simp only [Act.put, qI, qX, qY]
 refine BigFrame.wpQuiet_want (by kernel_rfl) (fun K hK => ?_)
 refine quiet_val ?_ (fun W hW => ?_) (hK _ ?_)
 rotate_left 1
 ·skip
  go_simp
  try rfl
 clear hK
 clear K
 try simp only [Act.put, qI, qX, qY]
 refine BigFrame.wpQuiet_want (by kernel_rfl) (fun K hK => ?_)
 refine quiet_val ?_ (fun W hW => ?_) (hK _ ?_)
 rotate_left 1
 ·skip
  go_simp
  try rfl
 clear hK
 clear K
 try simp only [Act.put, qI, qX, qY]
 refine BigFrame.wpQuiet_want (by kernel_rfl) (fun K hK => ?_)
 refine quiet_val ?_ (fun W hW => ?_) (hK _ ?_)
 rotate_left 1
 ·skip
  go_simp
  try rfl
 clear hK
 clear K
 try simp only [Act.put, qI, qX, qY]
 refine BigFrame.wpQuiet_want (by kernel_rfl) (fun K hK => ?_)
 refine quiet_val ?_ (fun W hW => ?_) (hK _ ?_)
 rotate_left 1
 ·skip
  go_simp
  try rfl
 clear hK
 clear K
 try simp only [Act.put, qI, qX, qY]
 refine BigFrame.wpQuiet_want (by kernel_rfl) (fun K hK => ?_)
 refine quiet_val ?_ (fun W hW => ?_) (hK _ ?_)
 rotate_left 1
 ·skip
  go_simp
  try rfl
 clear hK
 clear K
 try simp only [Act.put, qI, qX, qY]
 refine wpQuiet_nil (fun X6 hstX6 => ?_)
 have hcX6 := below_from hb3 hstX6
 obtain ⟨p3, f3⟩ := blk (HB3.out _ hstX6)
 obtain ⟨p1, f1⟩ := blk (HB.out _ hcX6).2.1
 obtain ⟨p2, f2⟩ := blk (HB.out _ hcX6).2.2
 go_wp2_with fail
 have hs2 := hb2.size
 have e1 : ¬ w.heap.size + 1 = w2.heap.size := by omega
 have e2 : ¬ w2.heap.size = w.heap.size + 1 := by omega
 have e3 : ¬ w.heap.size + 1 + 1 = w2.heap.size := by omega
 have e4 : ¬ w2.heap.size = w.heap.size + 1 + 1 := by omega
 go_region
 go_wp2_with fail
 refine bodyPost_ret (results_two_pos rfl _ _ (w.heap.size + 1) (w.heap.size + 2) (.int .i64 i) (.int .i64 x) (.int .i64 i) (.int .i64 y) rfl rfl (by change (World.setCell _ _ _).heap[_]? = _; simp [heap_set, putIn, (HB.out _ hcX6).2.1]) (by change (World.setCell _ _ _).heap[_]? = _; simp [heap_set, putIn, (HB.out _ hcX6).2.2])) rfl ?_
 have hfin := H1.out.trans (hcX6.mono hs1)
 exact ⟨rfl, by (repeat' (first | (with_reducible exact Below.refl _ _) | (with_reducible assumption) | (with_reducible refine Below.alloc ?_ ?_ _) | (with_reducible refine Below.drew ?_) | (with_reducible refine drewN_below ?_) | (with_reducible refine Below.setCell ?_ ?_ _) | go_size))⟩
set_option maxRecDepth 100000 in
set_option maxHeartbeats 4000000 in
theorem styHand_any (v : Value) (s : St) (w : World) (S : Nat → Prop) (h : LinsR w S v s.lines) (hf : Fits s.lines) (hm : isD s.lines s.anc = true) :
  Calls Tryz.prog 84 #[stV v s] w fun e w' => e = .returned (.tuple #[.agg #[.int .i64 (handS s).1.line, .int .i64 (handS s).1.col], .agg #[.int .i64 (handS s).2.line, .int .i64 (handS s).2.col]]) ∧ Below w.heap.size w w' := by
 obtain ⟨W1, hW1, hB, hz, k0, k1, k2⟩ := st_pos2 w v s
 have HB : Hid (∀ W, Below W1.heap.size W1 W → W.heap[w.heap.size]? = some (.cells #[v, .int .i64 s.anc.line, .int .i64 s.anc.col, .int .i64 s.foc.line, .int .i64 s.foc.col, .int .i64 s.on, .int .i64 s.off] 26) ∧ W.heap[w.heap.size + 1]? = some (.cells #[.int .i64 0, .int .i64 0] 24) ∧ W.heap[w.heap.size + 2]? = some (.cells #[.int .i64 0, .int .i64 0] 24)) := Lib.hid fun W hW => ⟨heap_below hW k0, heap_below hW k1, heap_below hW k2⟩
 have hs1 := hB.size
 have H1 := Lib.hid hB
 have hw0 : Below W1.heap.size W1 W1 := Below.refl _ _
 have HV : Hid (∀ W, Below W1.heap.size W1 W → LinsR W S v s.lines) := Lib.hid fun W hW => h.below (rdLin_stable _) (hB.trans (hW.mono hs1))
 have HO : Hid (∀ W, Below W1.heap.size W1 W → Calls Tryz.prog 75 #[stV v s] W fun e w' => e = .returned (.bool (!decide (s.anc = s.foc))) ∧ Below W.heap.size W w') := Lib.hid fun W _ => styOpen_any v s W
 have HS : Hid (∀ W, Below W1.heap.size W1 W → Calls Tryz.prog 28 #[stV v s] W fun e w' => e = .returned (.tuple #[.agg #[.int .i64 (spanS s).1.line, .int .i64 (spanS s).1.col], .agg #[.int .i64 (spanS s).2.line, .int .i64 (spanS s).2.col]]) ∧ Below W.heap.size W w') := Lib.hid fun W _ => stSpan_any v s W
 have HA : Hid (s.anc = s.foc → ∀ W, Below W1.heap.size W1 W → Calls Tryz.prog 153 #[stV v s] W fun e w' => e = .returned (.tuple #[.agg #[.int .i64 s.anc.line, .int .i64 (withinF (cellsAt s) s.anc.col.toNat).1], .agg #[.int .i64 s.anc.line, .int .i64 (withinF (cellsAt s) s.anc.col.toNat).2]]) ∧ Below W.heap.size W w') := Lib.hid fun hc W hW => styAt_any v s W S (HV.out W hW) hf hc hm
 have HR : Hid (handS s = if s.anc = s.foc then (⟨s.anc.line, ((withinF (cellsAt s) s.anc.col.toNat).1 : Int)⟩, ⟨s.anc.line, ((withinF (cellsAt s) s.anc.col.toNat).2 : Int)⟩) else spanS s) := Lib.hid rfl
 obtain ⟨p0, f0⟩ := blk k0
 obtain ⟨va, vc, rfl⟩ := h.slice
 clear h hf hm HV k0 k1 k2 hB
 by_cases hc : s.anc = s.foc
 ·skip
  rw [if_pos hc] at HR
  rw [decide_eq_true hc] at HO
  have HA := Lib.hid (HA.out hc)
  obtain ⟨x, hx⟩ : ∃ x, (withinF (cellsAt s) s.anc.col.toNat) = x := ⟨_, rfl⟩
  rw [hx] at HR HA
  clear hx HS
  have HR := Lib.hid HR.out
  clear hc
  go_enter Tryz.func84, Tryz.ntmps84
  go_wp2_with (first | (go_at_call 75; refine (HO.out _ hw0).mono ?_; rintro e w2 ⟨rfl, hb2⟩; obtain ⟨q0, g0⟩ := blk (HB.out _ hb2).1) | (go_at_call 153; refine (HA.out _ hb2).mono ?_; rintro e w3 ⟨rfl, hst3⟩; have hb3 := below_from hb2 hst3; obtain ⟨q1, g1⟩ := blk (HB.out _ hb3).2.1; obtain ⟨q2, g2⟩ := blk (HB.out _ hb3).2.2))
  refine bodyPost_ret (results_two_pos rfl _ _ (w.heap.size + 1) (w.heap.size + 2) (.int .i64 s.anc.line) (.int .i64 x.1) (.int .i64 s.anc.line) (.int .i64 x.2) rfl rfl (by simp [heap_set, putIn, (HB.out _ hb3).2.1]) (by simp [heap_set, putIn, (HB.out _ hb3).2.2])) rfl ?_
  rw [HR.out]
  have hfin := H1.out.trans (hb3.mono hs1)
  exact ⟨rfl, by (repeat' (first | (with_reducible exact Below.refl _ _) | (with_reducible assumption) | (with_reducible refine Below.alloc ?_ ?_ _) | (with_reducible refine Below.drew ?_) | (with_reducible refine drewN_below ?_) | (with_reducible refine Below.setCell ?_ ?_ _) | go_size))⟩
 ·skip
  rw [if_neg hc] at HR
  rw [decide_eq_false hc] at HO
  obtain ⟨x, hx⟩ : ∃ x, spanS s = x := ⟨_, rfl⟩
  rw [hx] at HR HS
  clear hx HA
  have HR := Lib.hid HR.out
  clear hc
  go_enter Tryz.func84, Tryz.ntmps84
  go_wp2_with (first | (go_at_call 75; refine (HO.out _ hw0).mono ?_; rintro e w2 ⟨rfl, hb2⟩; obtain ⟨q0, g0⟩ := blk (HB.out _ hb2).1) | (go_at_call 28; refine (HS.out _ hb2).mono ?_; rintro e w3 ⟨rfl, hst3⟩; have hb3 := below_from hb2 hst3; obtain ⟨q1, g1⟩ := blk (HB.out _ hb3).2.1; obtain ⟨q2, g2⟩ := blk (HB.out _ hb3).2.2))
  refine bodyPost_ret (results_two_pos rfl _ _ (w.heap.size + 1) (w.heap.size + 2) (.int .i64 x.1.line) (.int .i64 x.1.col) (.int .i64 x.2.line) (.int .i64 x.2.col) rfl rfl (by simp [heap_set, putIn, (HB.out _ hb3).2.1]) (by simp [heap_set, putIn, (HB.out _ hb3).2.2])) rfl ?_
  rw [HR.out]
  have hfin := H1.out.trans (hb3.mono hs1)
  exact ⟨rfl, by (repeat' (first | (with_reducible exact Below.refl _ _) | (with_reducible assumption) | (with_reducible refine Below.alloc ?_ ?_ _) | (with_reducible refine Below.drew ?_) | (with_reducible refine drewN_below ?_) | (with_reducible refine Below.setCell ?_ ?_ _) | go_size))⟩
end Go.Proofs.YtpndnbjpnajaaaaGreatDoor
namespace Go.Proofs.YtpndnbjpnajaaaaGreatDoor
open Go.RowKit
open Go.Proofs.Qw
attribute [local go_sem] Oper.semAt_some
theorem st_on2 {w : World} {B : Nat} {cs : Array Value} {t : TypeId} (h : w.heap[B]? = some (.cells cs t)) : ∀ X Y k, ((w.alloc X).alloc Y).cell? ⟨B, k, none⟩ = cs[k]? := fun X Y _ => cell_of_heap (heap_old _ Y (heap_old _ X h))
def BI (w : World) (Ba Bn Z : Nat) (pre : List Cel) (W : World) : Prop :=
 Boxed W Ba 3 (.int .i64 (andB pre)) ∧ Boxed W Bn 3 (.int .i64 pre.length) ∧ Below w.heap.size w W ∧ Z ≤ W.heap.size
theorem bi_own {w : World} {Ba Bn Z B : Nat} (hB : w.heap.size ≤ B) : OwnFrom B (BI w Ba Bn Z) :=
 OwnFrom.and (Own.from (boxed_own _ _ (fun pre : List Cel => .int .i64 (andB pre))) _) (OwnFrom.and (Own.from (boxed_own _ _ (fun pre : List Cel => .int .i64 pre.length)) _) (OwnFrom.and (ownFrom_below (Nat.le_refl _) hB) (ownFrom_size _ _)))
theorem all_count' (d : List Cel) (t : Int) : (decide (0 < d.length) && decide (d.countP (fun x => bits .and .i64 x.bits t == t) = d.length)) = allL d t := by
 rw [Bool.eq_iff_iff]
 simp only [allL, Bool.and_eq_true, decide_eq_true_eq, List.all_eq_true, List.countP_eq_length]
theorem any_count' (d : List Cel) (t : Int) : decide (0 < d.countP (fun x => bits .and .i64 x.bits t != 0)) = someL d t := by
 rw [Bool.eq_iff_iff]
 simp only [someL, decide_eq_true_eq, List.any_eq_true, List.countP_pos_iff]
theorem andB_snoc (l : List Cel) (x : Cel) : andB (l ++ [x]) = bits .and .i64 (andB l) x.bits := by simp [andB]
set_option maxRecDepth 100000 in
set_option maxHeartbeats 4000000 in
theorem styBits_any (v : Value) (s : St) (w : World) (S : Nat → Prop) (h : LinsR w S v s.lines) (he : EnvT w) (hs : Small s.lines) (hf : Fits s.lines) :
  Calls Tryz.prog 19 #[stV v s] w fun e w' => e = .returned (.int .i64 (bitsS s)) ∧ Below w.heap.size w w' := by
 obtain ⟨W1, hW1, hB, hz, k0⟩ := one_st w v s
 have HB : Hid (∀ W, Below W1.heap.size W1 W → W.heap[w.heap.size]? = some (.cells #[v, .int .i64 s.anc.line, .int .i64 s.anc.col, .int .i64 s.foc.line, .int .i64 s.foc.col, .int .i64 s.on, .int .i64 s.off] 26)) := Lib.hid fun W hW => heap_below hW k0
 have hs1 := hB.size
 have H1 := Lib.hid hB
 have hw0 : Below W1.heap.size W1 W1 := Below.refl _ _
 have HV : Hid (∀ W, Below W1.heap.size W1 W → LinsR W S v s.lines) := Lib.hid fun W hW => h.below (rdLin_stable _) (hB.trans (hW.mono hs1))
 have HE : Hid (∀ W, Below W1.heap.size W1 W → EnvT W) := Lib.hid fun W hW => (he.below hB).below hW
 have HM : Hid (∀ W, Below W1.heap.size W1 W → Calls Tryz.prog 27 #[stV v s] W fun e w' => e = .returned (.bool (mayS s)) ∧ Below W.heap.size W w') := Lib.hid fun W hW => stMay_any v s W S (HV.out W hW) (HE.out W hW) hs
 have HSp : Hid (∀ W, Below W1.heap.size W1 W → Calls Tryz.prog 28 #[stV v s] W fun e w' => e = .returned (.tuple #[.agg #[.int .i64 (spanS s).1.line, .int .i64 (spanS s).1.col], .agg #[.int .i64 (spanS s).2.line, .int .i64 (spanS s).2.col]]) ∧ Below W.heap.size W w') := Lib.hid fun W _ => stSpan_any v s W
 have HO : Hid (∀ W, Below W1.heap.size W1 W → Calls Tryz.prog 75 #[stV v s] W fun e w' => e = .returned (.bool (!decide (s.anc = s.foc))) ∧ Below W.heap.size W w') := Lib.hid fun W _ => styOpen_any v s W
 have HVF := Lib.hid (And.intro h (And.intro he (And.intro hs hf)))
 have hbs : bitsS s = if mayS s = true then (if s.anc = s.foc then bits .or .i64 (bits .andNot .i64 (aroundF (cellsAt s) s.anc.col.toNat).1 s.off) s.on else bitsL (selS s)) else 0 := rfl
 have HR := Lib.hid hbs
 clear hbs
 cases hm : mayS s
 ·rw [hm] at HM HR
  have HR : Hid (bitsS s = 0) := Lib.hid (HR.out.trans (if_neg (by simp)))
  obtain ⟨p0, f0⟩ := blk k0
  obtain ⟨va, vc, rfl⟩ := h.slice
  clear h he hs hf k0 hB hm HSp HO HVF
  go_enter Tryz.func19, Tryz.ntmps19
  go_wp2_with (go_at_call 27; refine (HM.out _ hw0).mono ?_; rintro e w2 ⟨rfl, hb2⟩)
  go_ret
  rw [HR.out]
  exact ⟨rfl, H1.out.trans (hb2.mono hs1)⟩
 by_cases hc : s.anc = s.foc
 ·rw [hm] at HM HR
  rw [if_pos rfl, if_pos hc] at HR
  rw [decide_eq_true hc] at HO
  rw [spanS_closed hc] at HSp
  have HR := Lib.hid HR.out
  obtain ⟨i, n, l, hi, hn, hl, hcl, hnn, hnl⟩ := place_at (mayS_at hm).2.1
  have hc1 : (aroundF (cellsAt s) s.anc.col.toNat) = aroundF l.cells n := by unfold cellsAt; rw [hcl, hnn]
  obtain ⟨x, y, hxy⟩ : ∃ x y, aroundF l.cells n = (x, y) := ⟨_, _, rfl⟩
  rw [hc1, hxy] at HR
  have HXY := Lib.hid hxy
  have hil := (List.getElem?_eq_some_iff.1 hl).1
  obtain ⟨va, vc, rfl, hvc, hvm, hx⟩ := lins_shape h
  obtain ⟨b, o, la, lc, ca, cc, rfl, hAt⟩ := hx i l hl
  have HAT : Hid (∀ W, Below W1.heap.size W1 W → LinAt W S b (o + i * 4) l la lc ca cc) := Lib.hid fun W hW => hAt.below (hB.trans (hW.mono hs1))
  unfold maxLen at hvm
  have i0 : (0 : Int) ≤ (i : Int) := Int.natCast_nonneg _
  have i1 : (i : Int) < (s.lines.length : Int) := by omega
  obtain ⟨p0, f0⟩ := blk k0
  obtain ⟨r, hr⟩ : ∃ r, bitsS s = r := ⟨_, rfl⟩
  rw [hr] at HR ⊢
  clear hr
  obtain ⟨lines, anc, foc, on, off⟩ := s
  obtain ⟨al, ac⟩ := anc
  simp only at hi hn hc
  subst hi hn hc
  clear h he hs hf hm hcl hnn hc1 hxy hl hx hAt k0 hB HVF
  go_enter Tryz.func19, Tryz.ntmps19
  go_wp2_with (first | (go_at_call 27; refine (HM.out _ hw0).mono ?_; rintro e w2 ⟨rfl, hb2⟩; obtain ⟨q0, g0⟩ := blk (HB.out _ hb2)) | (go_at_call 28; refine (HSp.out _ hb2).mono ?_; rintro e w3 ⟨rfl, hst3⟩; have hb3 := below_from hb2 hst3; obtain ⟨q1, g1⟩ := blk (HB.out _ hb3); have e3 : ¬ w3.heap.size = w.heap.size := (by have := hb3.size; omega); have HA3 : Hid (∀ X Y, Below W1.heap.size W1 ((w3.alloc X).alloc Y)) := Lib.hid fun X Y => (hb3.alloc hb3.size X).alloc (by have := hb3.size; simp; omega) Y; have r1 := st_on2 (HB.out _ hb3)) | (go_at_call 75; refine (HO.out _ (HA3.out _ _)).mono ?_; rintro e w4 ⟨rfl, hst4⟩))
  have hb4 := below_from (HA3.out _ _) hst4
  have n3 : w4.heap[w3.heap.size]? = some (.cells #[.int .i64 i, .int .i64 n] 24) := heap_below hst4 (heap_old _ _ (heap_new _ _ rfl))
  have HB4 : Hid (∀ W, Below w4.heap.size w4 W → W.heap[w3.heap.size]? = some (.cells #[.int .i64 i, .int .i64 n] 24)) := Lib.hid fun W hW => heap_below hW n3
  have HAr : Hid (∀ W, Below w4.heap.size w4 W → Calls Tryz.prog 76 #[.slice ca l.cells.length cc, .int .i64 n] W fun e w' => e = .returned (.tuple #[.int .i64 x, .string ⟨y.toArray⟩]) ∧ Below W.heap.size W w') := Lib.hid fun W hW => by
   have := around_any _ l.cells n W S (HAT.out W (below_from hb4 hW)).cellsR hnl
   rw [HXY.out] at this
   exact this
  try clear n3 q0 g0 p0 f0 q1 g1 r1
  refine wp_region_grew w4.heap.size (by kernel_rfl) (by kernel_rfl) ?_
  refine BigFrame.wpQuiet_want (by kernel_rfl) (fun K hK => ?_)
  refine quiet_val ?_ (fun W hW => ?_) (hK _ ?_)
  rotate_left 1
  ·skip
   go_simp
   try rfl
  clear hK
  clear K
  try simp only [Act.put, qI, qX, qY]
  refine BigFrame.wpQuiet_want (by kernel_rfl) (fun K hK => ?_)
  refine quiet_val ?_ (fun W hW => ?_) (hK _ ?_)
  rotate_left 1
  ·skip
   obtain ⟨p0, f0⟩ := blk (HB.out _ (below_from hb4 hW))
   obtain ⟨p3, f3⟩ := blk (HB4.out _ hW)
   obtain ⟨_, _, _, _, c3, _, _⟩ := HAT.out _ (below_from hb4 hW)
   go_simp
   try rfl
  clear hK
  clear K
  try simp only [Act.put, qI, qX, qY]
  refine BigFrame.wpQuiet_want (by kernel_rfl) (fun K hK => ?_)
  refine quiet_val ?_ (fun W hW => ?_) (hK _ ?_)
  rotate_left 1
  ·skip
   go_simp
   try rfl
  clear hK
  clear K
  try simp only [Act.put, qI, qX, qY]
  refine BigFrame.wpQuiet_want (by kernel_rfl) (fun K hK => ?_)
  refine quiet_val ?_ (fun W hW => ?_) (hK _ ?_)
  rotate_left 1
  ·skip
   obtain ⟨p0, f0⟩ := blk (HB.out _ (below_from hb4 hW))
   obtain ⟨p3, f3⟩ := blk (HB4.out _ hW)
   obtain ⟨_, _, _, _, c3, _, _⟩ := HAT.out _ (below_from hb4 hW)
   go_simp
   try rfl
  clear hK
  clear K
  try simp only [Act.put, qI, qX, qY]
  refine BigFrame.wpQuiet_want (by kernel_rfl) (fun K hK => ?_)
  refine quiet_val ?_ (fun W hW => ?_) (hK _ ?_)
  rotate_left 1
  ·skip
   go_simp
   try rfl
  clear hK
  clear K
  try simp only [Act.put, qI, qX, qY]
  refine BigFrame.wpQuiet_want (by kernel_rfl) (fun K hK => ?_)
  refine quiet_val ?_ (fun W hW => ?_) (hK _ ?_)
  rotate_left 1
  ·skip
   go_simp
   try rfl
  clear hK
  clear K
  try simp only [Act.put, qI, qX, qY]
  refine BigFrame.wpQuiet_want (by kernel_rfl) (fun K hK => ?_)
  refine quiet_val ?_ (fun W hW => ?_) (hK _ ?_)
  rotate_left 1
  ·skip
   obtain ⟨p0, f0⟩ := blk (HB.out _ (below_from hb4 hW))
   obtain ⟨p3, f3⟩ := blk (HB4.out _ hW)
   obtain ⟨_, _, _, _, c3, _, _⟩ := HAT.out _ (below_from hb4 hW)
   go_simp
   try rfl
  clear hK
  clear K
  try simp only [Act.put, qI, qX, qY]
  refine BigFrame.wpQuiet_want (by kernel_rfl) (fun K hK => ?_)
  refine quiet_val ?_ (fun W hW => ?_) (hK _ ?_)
  rotate_left 1
  ·skip
   go_simp
   try rfl
  clear hK
  clear K
  try simp only [Act.put, qI, qX, qY]
  refine BigFrame.wpQuiet_want (by kernel_rfl) (fun K hK => ?_)
  refine quiet_val ?_ (fun W hW => ?_) (hK _ ?_)
  rotate_left 1
  ·skip
   obtain ⟨p0, f0⟩ := blk (HB.out _ (below_from hb4 hW))
   obtain ⟨p3, f3⟩ := blk (HB4.out _ hW)
   obtain ⟨_, _, _, _, c3, _, _⟩ := HAT.out _ (below_from hb4 hW)
   go_simp
   try rfl
  clear hK
  clear K
  try simp only [Act.put, qI, qX, qY]
  refine BigFrame.wpQuiet_want (by kernel_rfl) (fun K hK => ?_)
  refine quiet_calls (f := ?_) (args := ?_) ?_ (fun W hW => ?_) (fun W hW => ?_) (hK _ ?_)
  rotate_left 3
  ·go_simp
   constructor <;> rfl
  ·refine (HAr.out _ hW).mono ?_
   rintro e W2 ⟨rfl, hbW⟩
   refine ⟨?_, below_from hW hbW⟩
   rfl
  clear hK
  clear K
  try simp only [Act.put, qI, qX, qY]
  refine BigFrame.wpQuiet_want (by kernel_rfl) (fun K hK => ?_)
  refine quiet_val ?_ (fun W hW => ?_) (hK _ ?_)
  rotate_left 1
  ·skip
   go_simp
   try rfl
  clear hK
  clear K
  try simp only [Act.put, qI, qX, qY]
  refine BigFrame.wpQuiet_want (by kernel_rfl) (fun K hK => ?_)
  refine quiet_val ?_ (fun W hW => ?_) (hK _ ?_)
  rotate_left 1
  ·skip
   go_simp
   try rfl
  clear hK
  clear K
  try simp only [Act.put, qI, qX, qY]
  refine BigFrame.wpQuiet_want (by kernel_rfl) (fun K hK => ?_)
  refine quiet_val ?_ (fun W hW => ?_) (hK _ ?_)
  rotate_left 1
  ·skip
   go_simp
   try rfl
  clear hK
  clear K
  try simp only [Act.put, qI, qX, qY]
  refine BigFrame.wpQuiet_want (by kernel_rfl) (fun K hK => ?_)
  refine quiet_val ?_ (fun W hW => ?_) (hK _ ?_)
  rotate_left 1
  ·skip
   go_simp
   try rfl
  clear hK
  clear K
  try simp only [Act.put, qI, qX, qY]
  refine BigFrame.wpQuiet_want (by kernel_rfl) (fun K hK => ?_)
  refine quiet_val ?_ (fun W hW => ?_) (hK _ ?_)
  rotate_left 1
  ·skip
   go_simp
   try rfl
  clear hK
  clear K
  try simp only [Act.put, qI, qX, qY]
  refine wpQuiet_nil (fun X6 hstX6 => ?_)
  have hcX6 := below_from hb4 hstX6
  obtain ⟨p0, f0⟩ := blk (HB.out _ hcX6)
  go_wp2_with fail
  go_ret
  rw [HR.out]
  exact ⟨rfl, H1.out.trans (hcX6.mono hs1)⟩
 ·rw [hm] at HM HR
  rw [if_pos rfl, if_neg hc] at HR
  rw [decide_eq_false hc] at HO
  have HR := Lib.hid HR.out
  obtain ⟨A, B, hAB⟩ : ∃ A B, spanS s = (A, B) := ⟨_, _, rfl⟩
  have hsel : selS s = cellsD s.lines A B := by unfold selS; rw [hAB]
  rw [hsel] at HR
  rw [hAB] at HSp
  have HVF := HVF
  have hL : (cellsD s.lines A B).length ≤ 100000 := Nat.le_trans (cellsD_size _ _ _) hs.1
  have HL := Lib.hid hL
  obtain ⟨p0, f0⟩ := blk k0
  obtain ⟨va, vc, rfl⟩ := h.slice
  clear h he hs hf hm hc hAB hsel hL k0 hB
  refine (callsIn_wide (n := 6)).1 ?_
  refine callsIn_of_wp_marks Tryz.func19 rfl trivial ?_ rfl
  simp only [Tryz.ntmps19, List.size_toArray, List.length_cons, List.length_nil, Nat.reduceAdd, Nat.reduceSub, Array.replicate_succ, Array.replicate_zero, List.push_toArray, List.append_toArray, List.nil_append, List.cons_append]
  have hwf : ∀ f, Fence.wide.fn f := fun _ => trivial
  have hwd : Fence.wide.depth = none := rfl
  gi_wp2_with (first
   | (gi_at_call 27; refine (callsIn_wide.2 (HM.out _ hw0)).mono ?_; rintro e w2 ⟨rfl, hb2⟩; obtain ⟨q0, g0⟩ := blk (HB.out _ hb2))
   | (gi_at_call 28; refine (callsIn_wide.2 (HSp.out _ hb2)).mono ?_; rintro e w3 ⟨rfl, hst3⟩; have hb3 := below_from hb2 hst3; obtain ⟨q1, g1⟩ := blk (HB.out _ hb3); have HA3 : Hid (∀ X Y, Below W1.heap.size W1 ((w3.alloc X).alloc Y)) := Lib.hid fun X Y => (hb3.alloc hb3.size X).alloc (by have := hb3.size; simp; omega) Y; have hz3 := hb3.size; have e3 : ¬ w3.heap.size = w.heap.size := (by omega); have r1 := st_on2 (HB.out _ hb3))
   | (gi_at_call 75; refine (callsIn_wide.2 (HO.out _ (HA3.out _ _))).mono ?_; rintro e w4 ⟨rfl, hst4⟩; have hb4 := below_from (HA3.out _ _) hst4; obtain ⟨q2, g2⟩ := blk (HB.out _ hb4); have n3 := heap_below hst4 (heap_old _ (.cells #[.int .i64 B.line, .int .i64 B.col] 24) (heap_new w3 (.cells #[.int .i64 A.line, .int .i64 A.col] 24) rfl)); have n4 := heap_below hst4 (heap_new (w3.alloc (.cells #[.int .i64 A.line, .int .i64 A.col] 24)) (.cells #[.int .i64 B.line, .int .i64 B.col] 24) (B := w3.heap.size + 1) (by simp)); obtain ⟨q3, g3⟩ := blk n3; obtain ⟨q4, g4⟩ := blk n4; have r2 := st_on2 (HB.out _ hb4); have r3 := st_on2 n3; have r4 := st_on2 n4)
   | (gi_at_call 77; refine (callsIn_wide.2 (selected_any _ _ _ A B _)).mono ?_; rintro e w5 ⟨rfl, rfl⟩))
  have hx4 : Below w.heap.size w w4 := H1.out.trans (hb4.mono hs1)
  have hz4 := hb4.size
  have hz34 : w3.heap.size + 2 ≤ w4.heap.size := by have := hst4.size; simpa using this
  obtain ⟨w6, hw6⟩ : ∃ w6, ((((w4.alloc (.cells #[.int .i64 15] 3)).alloc (.cells #[.int .i64 0] 3)).alloc (.cells #[.slice va s.lines.length vc] 22)).alloc (.cells #[.int .i64 A.line, .int .i64 A.col] 24)).alloc (.cells #[.int .i64 B.line, .int .i64 B.col] 24) = w6 := ⟨_, rfl⟩
  rw [hw6]
  have hb46 : Below w4.heap.size w4 w6 := hw6 ▸ (((((Below.refl _ _).alloc (Nat.le_refl _) _).alloc (by simp) _).alloc (by simp; omega) _).alloc (by simp; omega) _).alloc (by simp; omega) _
  have hz6 : w6.heap.size = w4.heap.size + 5 := by rw [← hw6]; simp
  have m0 : w6.heap[w4.heap.size]? = some (.cells #[.int .i64 15] 3) := hw6 ▸ heap_old _ _ (heap_old _ _ (heap_old _ _ (heap_old _ _ (heap_new _ _ rfl))))
  have m1 : w6.heap[w4.heap.size + 1]? = some (.cells #[.int .i64 0] 3) := hw6 ▸ heap_old _ _ (heap_old _ _ (heap_old _ _ (heap_new _ _ (by simp))))
  have m2 : w6.heap[w4.heap.size + 1 + 1]? = some (.cells #[.slice va s.lines.length vc] 22) := hw6 ▸ heap_old _ _ (heap_old _ _ (heap_new _ _ (by simp)))
  have m3 : w6.heap[w4.heap.size + 1 + 1 + 1]? = some (.cells #[.int .i64 A.line, .int .i64 A.col] 24) := hw6 ▸ heap_old _ _ (heap_new _ _ (by simp))
  have m4 : w6.heap[w4.heap.size + 1 + 1 + 2]? = some (.cells #[.int .i64 B.line, .int .i64 B.col] 24) := hw6 ▸ heap_new _ _ (by simp)
  have hb6 : Below w.heap.size w w6 := hx4.trans (hb46.mono hx4.size)
  have hBI : BI w w4.heap.size (w4.heap.size + 1) w6.heap.size [] w6 := ⟨m0, m1, hb6, Nat.le_refl _⟩
  have N0 := Lib.hid (And.intro m2 (And.intro m3 (And.intro m4 (heap_below hb46 n3))))
  clear hw6 m0 m1 m2 m3 m4 n3 n4 q0 g0 q1 g1 q2 g2 q3 g3 q4 g4 r1 r2 r3 r4 p0 f0 hW1
  refine rangeFunc_boxD rfl (by omega) (gf := 148) (lb := #[.pointer (some ⟨w4.heap.size + 1 + 1, 0, none⟩), .pointer (some ⟨w4.heap.size + 1 + 1 + 1, 0, none⟩), .pointer (some ⟨w4.heap.size + 1 + 1 + 2, 0, none⟩)]) rfl trivial (enters_of Tryz.func148 (by kernel_rfl) rfl)
   (encs := fun c : Cel => #[celV c]) (n₀ := w.heap.size) (base := w6.heap.size) (Bs := w3.heap.size) (S := fun ys => ys = cellsD s.lines A B) (Sp := fun pre => pre <+: cellsD s.lines A B) (N := 200000) (w0 := w6) ?seq hb6.size (by omega) (Below.refl _ _) (fun _ => rfl)
   (BI w w4.heap.size (w4.heap.size + 1) w6.heap.size) (fun _ _ _ => False) (bi_own hb6.size) (fun _ _ _ _ _ hs _ _ => hs) hBI (fun _ _ h => h.2.2.2)
   (fun x => #[.int .i32 x.r, .int .i64 x.bits, .string ⟨x.href.toArray⟩]) 44 ?act ?assign ?body ?done ?stop
  case seq =>
   intro l J Jx W hW hJ _ hY h0
   have hzW := hW.size
   exact selected1_in 5 l (w4.heap.size + 1 + 1) (w4.heap.size + 1 + 1 + 1) (w4.heap.size + 1 + 1 + 2) w6.heap.size w3.heap.size (.slice va s.lines.length vc) s.lines A B S J Jx w W HVF.out.1 HVF.out.2.1 HVF.out.2.2.1 HVF.out.2.2.2 (hb6.trans (hW.mono hb6.size)) hW.size (heap_below hW N0.out.1) (heap_below hW N0.out.2.1) (heap_below hW N0.out.2.2.1) (by omega)
    (by unfold ownAt; rw [cell_of_heap (heap_below hW N0.out.2.2.2)]; rfl) hJ hY h0
  case assign =>
   intro l pre x W K Bx hBx hI hK
   unfold celV
   gi_wp2
   rw [← hBx]
   exact hK
  case body =>
   intro l pre x Bx W hI hBx hbx hlt
   obtain ⟨t0, t1, hb, hz⟩ := hI
   obtain ⟨s0, s0f⟩ := blk t0
   obtain ⟨s1, s1f⟩ := blk t1
   obtain ⟨sx, sxf⟩ := blk hbx
   obtain ⟨a, ha⟩ : ∃ a, andB pre = a := ⟨_, rfl⟩
   have HA := Lib.hid (And.intro t0 (And.intro t1 (And.intro hb hz)))
   have HSN : Hid (andB (pre ++ [x]) = bits .and .i64 a x.bits ∧ (pre ++ [x]).length = pre.length + 1) := Lib.hid ⟨by rw [andB_snoc, ha], by simp⟩
   rw [ha] at s0 HA
   have e1 : ¬ w4.heap.size = w4.heap.size + 1 := by omega
   have e2 : ¬ w4.heap.size + 1 = w4.heap.size := by omega
   clear t0 t1 hb hz ha
   gi_wp2_with fail
   have hwz := hb6.size
   have hzW := HA.out.2.2.2
   refine ⟨((KeepsOthers.setCell _ _ _).trans (KeepsOthers.setCell _ _ _)).from _, (Kd.setCell _ (by omega) (by omega) (by omega) _).t (Kd.setCell _ (by omega) (by omega) (by omega) _), ?_, ?_, ?_, ?_⟩
   ·show (World.heap _)[_]? = _
    rw [heap_set, if_neg (by simp), heap_set, if_pos rfl, show W.heap[w4.heap.size]? = _ from HA.out.1, HSN.out.1]; rfl
   ·show (World.heap _)[_]? = _
    rw [heap_set, if_pos rfl, heap_set, if_neg (by simp), show W.heap[w4.heap.size + 1]? = _ from HA.out.2.1, HSN.out.2]
    rfl
   ·exact (HA.out.2.2.1.setCell (by show w.heap.size ≤ w4.heap.size; omega) _).setCell (by show w.heap.size ≤ w4.heap.size + 1; omega) _
   ·simpa only [World.size_setCell] using hzW
  case done =>
   rintro D ys W hD hys ⟨t0, t1, hb, hz⟩ hK
   subst hys
   obtain ⟨s0, s0f⟩ := blk t0
   obtain ⟨s1, s1f⟩ := blk t1
   have HB9 := Lib.hid hb
   have HK9 := Lib.hid hK
   have HL9 := HL.out
   clear hb hK t0 t1 HVF N0 hBI
   generalize cellsD s.lines A B = L at *
   cases L with
   | nil =>
    gi_wp2_with fail
    refine ⟨by simp, .inl ⟨_, _, rfl, run_takeDeferred HK9.out, ?_⟩⟩
    refine ⟨.int .i64 0, by simp [results, Tryz.results19, go_sem], ?_⟩
    rw [HR.out]
    exact ⟨rfl, HB9.out.trans (belowK_b (w := w) (Nat.le_refl _) W D _ _ (by have := hb6.size; omega) HK9.out rfl rfl)⟩
   | cons c l =>
    have HR : Hid (bitsS s = andB (c :: l)) := Lib.hid (HR.out.trans (if_neg (by simp)))
    obtain ⟨n, hn⟩ : ∃ n, (c :: l).length = n := ⟨_, rfl⟩
    have hn0 : ((n : Int) == 0) = false := by rw [← hn]; simp; omega
    obtain ⟨a, ha⟩ : ∃ a, andB (c :: l) = a := ⟨_, rfl⟩
    rw [hn] at s1 HL9
    rw [ha] at s0 HR
    clear hn ha
    gi_wp2_with fail
    refine ⟨by simp, .inl ⟨_, _, rfl, run_takeDeferred HK9.out, ?_⟩⟩
    refine ⟨.int .i64 a, by simp [results, Tryz.results19, go_sem], ?_⟩
    rw [HR.out]
    exact ⟨rfl, HB9.out.trans (belowK_b (w := w) (Nat.le_refl _) W D _ _ (by have := hb6.size; omega) HK9.out rfl rfl)⟩
  case stop =>
   rintro D c pre W _ _ h _
   exact h.elim
end Go.Proofs.YtpndnbjpnajaaaaGreatDoor
