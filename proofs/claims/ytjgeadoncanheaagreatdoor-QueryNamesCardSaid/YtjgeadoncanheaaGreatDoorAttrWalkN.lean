/- Parts of the proof. -/
import Derived.Test.YtjgeadoncanheaaGreatDoorRows
import Derived.WalkKit
import Derived.WalkSpells
import Derived.WalkLawsBesides
import Derived.ChangeAgain
import Derived.Lib.Hide
import Derived.Laws.EntriesVeiled
import Derived.RangeFuncNested
import Derived.RangeFuncBound
import Derived.RangeFuncCalls
import Derived.RangeFuncLeaves
import Derived.Shelf.Abstract
import Derived.Shelf.RegionOpen
import Derived.OwnWalkIn
import Derived.TacticsInMore
import Derived.LoopNIn
import Derived.LoopIn
import Derived.RangeFuncBox
import Derived.Handy
import Derived.Deep.Draws
import Derived.BigQuiet
import Derived.Deep.QuietTactic
import Derived.Deep.AppendSrc
import Derived.Lib.Small
import Derived.Lib.ValidU
import Derived.Lib.MapU
import Derived.Lib.IndexMore
import Derived.Deep.AppendLies
import Derived.Lib.AppendZerosOnto
import Derived.Lib.Overlaps
import Derived.Sort.QuietTacIn
import Derived.Deep.RegionHeld3
import Derived.Shelf.Unicode.ValidAny
import Derived.Shelf.Strings.Builder1
import Derived.Shelf.Strings.Builder2
import Derived.Shelf.Small.Utf8
import Derived.Shelf.Small.Wraps
import Derived.Shelf.Strings.BuilderF
import Derived.Shelf.Strings.BuilderK
import Derived.Shelf.Strings.BuilderRune
import Derived.Shelf.Utf8.AppendRune
import Derived.Shelf.Utf8.AppendRunePlain
import Derived.Shelf.Strings.Builder2Cap
import Derived.Shelf.Strings.Search1
import Derived.Shelf.Strings.Search2
import Derived.Shelf.Strings.Cut
import Derived.Shelf.LaysM
import Derived.Shelf.Strings.Shaped
import Derived.Shelf.Unicode.Decode
import Derived.Shelf.Unicode.DecodeSlow
import Derived.Shelf.Unicode.DecodeAny
import Derived.Shelf.Strings.MapAny
import Derived.Shelf.Strings.BuilderCap
import Derived.Shelf.Strings.MapGrows
import Derived.Test.YtjgeadoncanheaaGreatDoorProg
import Derived.Lib.OthersKept
set_option linter.unusedVariables false
set_option linter.unusedSimpArgs false
set_option maxHeartbeats 8000000
namespace Go.Proofs
theorem zCi {P : Prop} (h : P := by (repeat' (first | (with_reducible exact qM _ _) | (with_reducible refine qP ?_ ?_ _) | (with_reducible refine qN ?_ _) | (with_reducible refine qO ?_) | (first | (simp; omega)) | (simp; omega)))) : P := h
theorem zDp {P : Prop} (h : P := by (repeat' (first | (with_reducible exact qM _ _) | (with_reducible refine qP ?_ ?_ _) | (with_reducible refine qN ?_ _) | (with_reducible refine qO ?_) | (first | (simp; done)) | (simp; omega)))) : P := h
theorem zBu {P : Prop} (h : P := by ((with_reducible repeat' first | exact zE _ _ | assumption | refine zG ?_ ?_ _ | refine zH ?_ | refine jN ?_ | refine zF ?_ ?_ _) <;> go_size)) : P := h
theorem zAR {P : Prop} (h : P := by ((with_reducible repeat' first | exact Keeps.refl _ _ | refine Keeps.set ?_ ?_ _ | refine Keeps.alloc ?_ _ | refine Keeps.drew ?_) <;> (simp; omega))) : P := h
theorem zBv {P : Prop} (h : P := by ((with_reducible repeat' first | exact zE _ _ | assumption | refine zG ?_ ?_ _ | refine zH ?_ | refine qQ ?_ | refine zF ?_ ?_ _) <;> go_size)) : P := h
theorem jM {P : Prop} (h : P := by ((with_reducible repeat' first | exact qM _ _ | refine qP ?_ ?_ _ | refine qN ?_ _ | refine qO ?_) <;> (simp; omega))) : P := h
theorem zDq {P : Prop} (h : P := by show ¬ w.heap.size + 1 + 1 = w.heap.size + 1 + 1 + 1; omega) : P := h
theorem zDs {P : Prop} (h : P := by rw [xD]; simp [qR, qW, zY _ _ (HB.out _ hb5).2.1]) : P := h
theorem zDr {P : Prop} (h : P := by show w.heap.size ≤ w.heap.size + 1 + 1 + 1 + 1 + 1; omega) : P := h
theorem zCj {P : Prop} (h : P := by show w.heap.size ≤ w.heap.size + 1 + 1 + 1 + 1; omega) : P := h
theorem zAS {P : Prop} (h : P := by show ¬ w.heap.size + 1 + 1 = w.heap.size + 1; omega) : P := h
theorem zCk {P : Prop} (h : P := by show ¬ w.heap.size + 1 = w.heap.size + 1 + 1; omega) : P := h
theorem zAT {P : Prop} (h : P := by show ¬ w.heap.size + 1 + 1 + 1 + 1 + 1 = _; omega) : P := h
theorem zDt {P : Prop} (h : P := by show w.heap.size ≤ w.heap.size + 1 + 1 + 1; omega) : P := h
theorem zDu {P : Prop} (h : P := by show ¬ w.heap.size + 1 = w.heap.size + 2; omega) : P := h
theorem xC {P : Prop} (h : P := by show w.heap.size ≤ w.heap.size + 1 + 1; omega) : P := h
theorem zAU {P : Prop} (h : P := by show ¬ w.heap.size + 1 + 1 + 1 + 1 = _; omega) : P := h
theorem zCl {P : Prop} (h : P := by show w.heap.size + 1 + 1 + 1 + 1 < _; omega) : P := h
theorem zCm {P : Prop} (h : P := by rw [hg, List.drop_eq_nil_of_le (zC _)]; rfl) : P := h
theorem vH {P : Prop} (h : P := by show w.heap.size ≤ w.heap.size + 1; omega) : P := h
theorem zDv {P : Prop} (h : P := by show hr.toArray.size ≤ _; simpa using hh) : P := h
theorem zDx {P : Prop} (h : P := by simp [jL, qW, (HB.out _ hb2).2]) : P := h
theorem zDw {P : Prop} (h : P := by have hb : w2.heap.size ≤ b := hb; omega) : P := h
theorem jJ {P : Prop} (h : P := by have h' := h; (try simp at h'); omega) : P := h
theorem yL {P : Prop} (h : P := by simp [qR, qW, (HB.out _ hb2).2]) : P := h
theorem vZ {P : Prop} (h : P := by simp [qR, qW, (HB.out _ hb6).2]) : P := h
theorem zCn {P : Prop} (h : P := by simp [qR, qW, (HB.out _ hb3).2]) : P := h
theorem uN {P : Prop} (h : P := by rw [List.length_take]; omega) : P := h
theorem zAV {P : Prop} (h : P := by rw [List.length_drop]; omega) : P := h
theorem zCo {P : Prop} (h : P := by rw [hs.newsLen] at hj; omega) : P := h
theorem zCp {P : Prop} (h : P := by have := N2.out.1.size; omega) : P := h
theorem qT {P : Prop} (h : P := by simp only [qA, qS, qZ]; rfl) : P := h
theorem zAg {P : Prop} (h : P := by simp [jL, qW, hA4]) : P := h
theorem zBw {P : Prop} (h : P := by simp [jL, qW, k1']) : P := h
theorem zAW {P : Prop} (h : P := by as_aux_lemma => kernel_rfl) : P := h
theorem zAu {P : Prop} (h : P := by simp only [qA, qZ]; rfl) : P := h
theorem zAh {P : Prop} (h : P := by simp [qR, qW, hA4]) : P := h
theorem zAX {P : Prop} (h : P := by rw [e1]; decide) : P := h
theorem jB {P : Prop} (h : P := by simp; omega) : P := h
theorem zT {P : Prop} (h : P := by kernel_rfl) : P := h
theorem jA {P : Prop} (h : P := by assumption) : P := h
theorem kN {P : Prop} (h : P := by cases h) : P := h
theorem qV {P : Prop} (h : P := by decide) : P := h
theorem qC {P : Prop} (h : P := by omega) : P := h
theorem qE {P : Prop} (h : P := by simp) : P := h
theorem xX {P : Prop} (h : P := by rfl) : P := h
end Go.Proofs
namespace Go.Proofs.Qw
theorem qA.{u} {α : Type u} (l : List α) (i : Nat) : l.toArray[i]? = l[i]? := by simp
theorem qZ.{u} {α : Type u} (a : α) (l : List α) : (a :: l)[0]? = some a := rfl
theorem qS.{u} {α : Type u} (a : α) (l : List α) (i : Nat) : (a :: l)[i + 1]? = l[i]? := by simp
theorem qI.{u} {α : Type u} (l : List α) (i : Nat) (a : α) : l.toArray.setIfInBounds i a = (l.set i a).toArray := by simp
theorem qX.{u} {α : Type u} (a b : α) (l : List α) : (a :: l).set 0 b = b :: l := rfl
theorem qY.{u} {α : Type u} (a b : α) (l : List α) (i : Nat) : (a :: l).set (i + 1) b = a :: l.set i b := rfl
end Go.Proofs.Qw
namespace Go.Proofs.YtjgeadoncanheaaGreatDoor
open Go.RowKit
open _root_.Array renaming getElem?_eq_some_iff → zL
def Env (w : World) : Prop := w.ShapedOpen Tryz.prog
theorem Env.below {w w' : World} (h : Env w) (hb : Below w.heap.size w w') : Env w' :=
 World.ShapedOpen.keptBut (may := fun _ => False) h (hb.frame _) (fun _ h => h.elim)
theorem jF {a b c : World} (h1 : Below a.heap.size a b) (h2 : Below b.heap.size b c) : Below a.heap.size a c := h1.trans (h2.mono h1.size)
theorem yS (w : World) (a : Array Value) (t : TypeId) (k : Nat) : (w.alloc (.cells a t)).cell? ⟨w.heap.size, k, none⟩ = a[k]? := by
 rw [World.cell?, World.alloc_heap_new]; rfl
theorem jO {α : Type} (l : List α) (k : Nat) (h : k < l.length) : ∃ x, l[k]? = some x ∧ l.drop k = x :: l.drop (k + 1) :=
 ⟨l[k], by simp [h], by simp⟩
theorem zIh (b : ByteArray) (n : Nat) : ∀ (i : Nat) (r : List UInt8), b.size - i = n → ByteArray.toList.loop b i r = r.reverse ++ b.data.toList.drop i := by
 induction n with
 | zero =>
  intro i r h;unfold ByteArray.toList.loop;rw [if_neg qC, List.drop_eq_nil_of_le (by have : b.size = b.data.size := rfl; rw [Array.length_toList]; omega), List.append_nil]
 | succ n ih =>
  intro i r h;have hi : i < b.data.size := by have : b.size = b.data.size := rfl; omega
  unfold ByteArray.toList.loop;rw [if_pos qC, ih _ _ qC]
  have : b.data.toList.drop i = b.get! i :: b.data.toList.drop (i+1) := by
   rw [List.drop_eq_getElem_cons (by simpa using hi)]
   congr 1
   exact (getElem!_pos b.data i hi).symm
  rw [this, List.reverse_cons, List.append_assoc, List.singleton_append]
theorem zCR (b : ByteArray) : b.toList = b.data.toList := by
 unfold ByteArray.toList; rw [zIh b _ 0 [] rfl]; rfl
theorem zBo {k : IntKind} {a b : Int} (h : a = b) : Value.int k a = Value.int k b := by rw [h]
theorem zBC {X Y : World} (h : Below X.heap.size X Y) : X.grownBy Y none := ⟨h.os, h.tape, h.output, h.size, fun k hk _ => h.block k hk⟩
theorem zAv {β : Type} {B : Nat} {J : β → World → Prop} (h : AbidesFrom B J) {s : β} {X Y : World} (hs : J s X) (hb : Below X.heap.size X Y) : J s Y := h s X Y none hs (zBC hb) qE
theorem vI {X Y : World} (hb : Below X.heap.size X Y) : KeepsOthers X Y := .of_grownBy (zBC hb) qE
def RowAt (w : World) (B o : Nat) (l : List Value) : Prop := ∀ k v, l[k]? = some v → w.cell? ⟨B, o + k, none⟩ = some v ∧ w.frozen? ⟨B, o + k, none⟩ = false
theorem xY {w : World} {B o : Nat} {u v : Value} (h : w.cell? ⟨B, o, none⟩ = some u) : (w.setCell ⟨B, o, none⟩ v).cell? ⟨B, o, none⟩ = some v :=
 World.cell?_setCell_same' _ _ _ (by rw [h]; rfl)
theorem zHB {w : World} {B o o' : Nat} {v : Value} (h : o ≠ o') : (w.setCell ⟨B, o, none⟩ v).cell? ⟨B, o', none⟩ = w.cell? ⟨B, o', none⟩ := by
 unfold World.cell? World.setCell;simp only [Array.getElem?_modify];cases w.heap[B]? with
 | none => simp
 | some x => cases x <;> simp [h]
theorem kE {w : World} {B B' o o' : Nat} {v : Value} (h : B ≠ B') : (w.setCell ⟨B, o, none⟩ v).cell? ⟨B', o', none⟩ = w.cell? ⟨B', o', none⟩ :=
 World.cell?_of_block (Below.heap_setCell _ _ _ _ jB)
theorem RowAt.set {w : World} {B o : Nat} {l : List Value} (h : RowAt w B o l) {i : Nat} (hi : i < l.length) (v : Value) : RowAt (w.setCell ⟨B, o + i, none⟩ v) B o (l.set i v) := by
 intro k u hk;rw [World.frozen?_setCell]
 by_cases e : i = k
 ·subst e
  rw [List.getElem?_set_self hi] at hk;cases hk;exact ⟨xY (h i _ (List.getElem?_eq_getElem hi)).1, (h i _ (List.getElem?_eq_getElem hi)).2⟩
 ·rw [List.getElem?_set_ne e] at hk
  rw [zHB qC];exact h k u hk
theorem RowAt.below {w w' : World} {B o n : Nat} {l : List Value} (h : RowAt w B o l) (hb : Below n w w') (hB : B < n) : RowAt w' B o l := fun k v hk =>
 ⟨(hb.cell (p := ⟨B, o + k, none⟩) hB).trans (h k v hk).1, (hb.frozen (p := ⟨B, o + k, none⟩) hB).trans (h k v hk).2⟩
def bv (l : List UInt8) : List Value := l.map fun b => .int .u8 (b.toNat : Int)
structure Kp (n₀ base : Nat) (W W' : World) : Prop where
 below : Below n₀ W W'
 cells : ∀ k o, base ≤ k → W.heap[k]? = some o → o.isCells = true → W'.heap[k]? = some o
theorem Kp.t {n₀ base : Nat} {A B C : World} (h : Kp n₀ base A B) (k : Kp n₀ base B C) : Kp n₀ base A C := ⟨h.below.trans k.below, fun i o hi ho hc => k.cells i o hi (h.cells i o hi ho hc) hc⟩
theorem Kp.b {n₀ base : Nat} {w : World} (hn : n₀ ≤ w.heap.size) (W : World) (l : Nat) (o o' : Obj) (hl : w.heap.size ≤ l) (h : W.heap[l]? = some o) (hc : o.isCells = false) (hw : o.isWalk = false) : Kp n₀ base W (W.putObj l o') :=
 ⟨belowK_b hn W l o o' hl h hc hw, fun k u _ hk hu => by
  rw [World.putObj_heap_other (fun e => by subst e; rw [h] at hk; cases hk; rw [hc] at hu; cases hu)]; exact hk⟩
theorem Kp.refl (n₀ base : Nat) (W : World) : Kp n₀ base W W := ⟨Below.refl _ _, fun _ _ _ h _ => h⟩
theorem Kp.of_below {n₀ base : Nat} {W W' : World} (hn : n₀ ≤ W.heap.size) (hb : Below W.heap.size W W') : Kp n₀ base W W' :=
 ⟨hb.mono hn, fun k _ _ hk _ => (hb.block k (zL.1 hk).1).trans hk⟩
theorem Kp.setCell {n₀ base : Nat} (W : World) {B o : Nat} (h1 : n₀ ≤ B) (h2 : B < base) (v : Value) : Kp n₀ base W (W.setCell ⟨B, o, none⟩ v) :=
 ⟨(Below.refl _ _).setCell h1 _, fun k u hk h _ => by rw [Below.heap_setCell _ _ _ _ jB]; exact h⟩
theorem jR {w : World} {B k : Nat} {a : Array Value} {t : TypeId} {f : Nat × Nat} (h : w.heap[B]? = some (.cells a t f)) : w.cell? ⟨B, k, none⟩ = a[k]? := by
 rw [World.cell?, h]; rfl
theorem jD (w : World) (o : Obj) {B : Nat} (h : B = w.heap.size) : (w.alloc o).heap[B]? = some o := h ▸ World.alloc_heap_new _ _
theorem jH (w : World) (o : Obj) {B : Nat} {x : Obj} (h : w.heap[B]? = some x) : (w.alloc o).heap[B]? = some x :=
 (heap_alloc_old w o (zL.1 h).1).trans h
theorem zAy {X w1 : World} {B : Nat} {cs : Array Value} {t : TypeId} (hX : X.heap[B]? = some (.cells cs t)) (hb : Below X.heap.size X w1) :
  (∀ o, w1.cell? ⟨B, o, none⟩ = cs[o]?) ∧ (∀ o, w1.frozen? ⟨B, o, none⟩ = false) := by
 have hB := (zL.1 hX).1;refine ⟨fun o => (hb.cell (p := ⟨B, o, none⟩) hB).trans (jR hX), fun o => (hb.frozen (p := ⟨B, o, none⟩) hB).trans ?_⟩;rw [World.frozen?, hX]
 simp
theorem xZ {w : World} {B o : Nat} {cs : Array Value} {t : TypeId} {f : Nat × Nat} (h : w.heap[B]? = some (.cells cs t f)) (v : Value) : (w.setCell ⟨B, o, none⟩ v).heap[B]? = some (.cells (cs.setIfInBounds o v) t f) := by
 show (w.heap.modify B _)[B]? = _
 rw [Array.getElem?_modify, if_pos rfl, h]
 rfl
theorem xF {w : World} {B k : Nat} {a : Array Value} {t : TypeId} (h : w.heap[B]? = some (.cells a t)) : w.frozen? ⟨B, k, none⟩ = false := by
 rw [World.frozen?, h]; simp
theorem blk {w : World} {B : Nat} {a : Array Value} {t : TypeId} (h : w.heap[B]? = some (.cells a t)) : (∀ k, w.cell? ⟨B, k, none⟩ = a[k]?) ∧ (∀ k, w.frozen? ⟨B, k, none⟩ = false) := ⟨fun _ => jR h, fun _ => xF h⟩
theorem jG {X Y : World} {B : Nat} {x : Obj} (hb : Below X.heap.size X Y) (h : X.heap[B]? = some x) : Y.heap[B]? = some x := (hb.block B (zL.1 h).1).trans h
def qW (o : Nat) (v : Value) : Obj → Obj
 | .cells cs t f => .cells (cs.setIfInBounds o v) t f
 | x => x
theorem jL (w : World) (B o : Nat) (v : Value) (B' : Nat) : (w.setCell ⟨B, o, none⟩ v).heap[B']? = if B = B' then (w.heap[B']?).map (qW o v) else w.heap[B']? := by
 show (w.heap.modify B _)[B']? = _
 rw [Array.getElem?_modify]
 congr 2
theorem jN {B : Nat} {a w : World} {n : Nat} (h : Below B a w) : Below B a (w.drewN n) := ⟨h.os, h.tape, h.output, h.size, h.block⟩
theorem uA {β : Type} (B n : Nat) : OwnFrom B (fun (_ : β) (W : World) => n ≤ W.heap.size) := fun _ _ _ _ hs hg _ => Nat.le_trans hs hg.size
end Go.Proofs.YtjgeadoncanheaaGreatDoor
namespace Go.Proofs.Qw
open Go.RowKit
open _root_.Nat renaming le_refl → zC
theorem xQ {α : Type} {l : List α} {k : Nat} {x : α} (h : l[k]? = some x) : l.take (k + 1) = l.take k ++ [x] := by
 rw [List.take_add_one, h]; rfl
structure Cel where
 r : Int
 bits : Int
 href : List UInt8
 deriving DecidableEq, Inhabited
structure Lin where
 quote : Int
 lists : List Int
 kind : Int
 cells : List Cel
 deriving DecidableEq, Inhabited
abbrev Rd (α : Type) := World → (Nat → Prop) → List Value → α → Prop
structure Keeps (S : Nat → Prop) (w w' : World) : Prop where
 size : w.heap.size ≤ w'.heap.size
 block : ∀ b, S b → b < w.heap.size → w'.heap[b]? = w.heap[b]?
theorem Keeps.of_below {S : Nat → Prop} {n : Nat} {w w' : World} (h : Below n w w') (hS : ∀ b, S b → b < w.heap.size → b < n) : Keeps S w w' := ⟨h.size, fun b hb hz => h.block b (hS b hb hz)⟩
theorem Keeps.all {S : Nat → Prop} {w w' : World} (h : Below w.heap.size w w') : Keeps S w w' := ⟨h.size, fun b _ hz => h.block b hz⟩
theorem Keeps.refl (S : Nat → Prop) (w : World) : Keeps S w w := ⟨zC _, fun _ _ _ => rfl⟩
theorem Keeps.trans {S : Nat → Prop} {a b c : World} (h : Keeps S a b) (k : Keeps S b c) : Keeps S a c := ⟨Nat.le_trans h.size k.size, fun i hi hz => (k.block i hi (Nat.lt_of_lt_of_le hz h.size)).trans (h.block i hi hz)⟩
theorem Keeps.set {S : Nat → Prop} {a w : World} (h : Keeps S a w) {p : Addr} (hp : ¬ S p.block) (u : Value) : Keeps S a (w.setCell p u) :=
 h.trans ⟨by simp, fun b hb _ => Below.heap_setCell _ _ _ _ (fun e => hp (e ▸ hb))⟩
theorem Keeps.alloc {S : Nat → Prop} {a w : World} (h : Keeps S a w) (o : Obj) : Keeps S a (w.alloc o) := h.trans ⟨by simp, fun b _ hz => Below.heap_alloc _ _ _ hz⟩
theorem Keeps.drew {S : Nat → Prop} {a w : World} (h : Keeps S a w) : Keeps S a w.drew := h.trans ⟨zC _, fun _ _ _ => rfl⟩
theorem Keeps.on {S : Nat → Prop} {a w w' : World} (h : Keeps S a w) (hb : Below w.heap.size w w') : Keeps S a w' := h.trans (.all hb)
structure Stable {α : Type} (R : Rd α) : Prop where
 go : ∀ (w w' : World) (S S' : Nat → Prop) (vs : List Value) (x : α), R w S vs x → Keeps S w w' → (∀ b, S b → b < w.heap.size → S' b) → R w' S' vs x
def rdOf {α : Type} (enc : α → List Value) : Rd α := fun _ _ vs x => vs = enc x
theorem jV {α : Type} (enc : α → List Value) : Stable (rdOf enc) := ⟨fun _ _ _ _ _ _ h _ _ => h⟩
def SliceR {α : Type} (t : TypeId) (k : Nat) (R : Rd α) (own : Bool) (w : World) (S : Nat → Prop) (v : Value) (xs : List α) : Prop :=
 ∃ a c, v = .slice a xs.length c ∧ xs.length ≤ c ∧ c ≤ maxLen ∧ ((xs = [] ∧ (own = true → c = 0)) ∨ ∃ b o, a = some ⟨b, o, none⟩ ∧ S b ∧ b < w.heap.size ∧ (own = true → ∃ cs, w.heap[b]? = some (.cells cs t) ∧ o + c * k ≤ cs.size) ∧
  ∀ i x, xs[i]? = some x → ∃ vs : List Value, vs.length = k ∧ R w S vs x ∧ ∀ j u, vs[j]? = some u → w.cell? ⟨b, o + i * k + j, none⟩ = some u)
section
variable {α : Type} {t : TypeId} {k : Nat} {R : Rd α} {own : Bool} {w w' : World} {S S' : Nat → Prop} {v : Value} {xs : List α}
theorem SliceR.stable (hR : Stable R) (h : SliceR t k R own w S v xs) (hk : Keeps S w w') (hS : ∀ b, S b → b < w.heap.size → S' b) : SliceR t k R own w' S' v xs := by
 obtain ⟨a, c, h1, h2, h3, h | ⟨b, o, rfl, hb, hz, hf, he⟩⟩ := h
 ·exact ⟨a, c, h1, h2, h3, .inl h⟩
 ·refine ⟨_, c, h1, h2, h3, .inr ⟨b, o, rfl, hS b hb hz, Nat.lt_of_lt_of_le hz hk.size, fun ho => ?_, fun i x hx => ?_⟩⟩
  ·obtain ⟨cs, h1, h2⟩ := hf ho
   exact ⟨cs, (hk.block b hb hz).trans h1, h2⟩
  ·obtain ⟨vs, h1, h2, h3⟩ := he i x hx
   exact ⟨vs, h1, hR.go _ _ _ _ _ _ h2 hk hS, fun j u hu => by rw [World.cell?_of_block (w := w) (hk.block b hb hz)]; exact h3 j u hu⟩
theorem SliceR.below (hR : Stable R) (h : SliceR t k R own w S v xs) (hb : Below w.heap.size w w') : SliceR t k R own w' S v xs :=
 h.stable hR (.all hb) (fun _ h _ => h)
theorem SliceR.bounded (hR : Stable R) (h : SliceR t k R own w S v xs) : SliceR t k R own w (fun b => S b ∧ b < w.heap.size) v xs := h.stable hR (Keeps.refl _ _) (fun _ h hz => ⟨h, hz⟩)
theorem SliceR.read {R' : Rd α} (hRR : ∀ vs x, R w S vs x → R' w S vs x) (h : SliceR t k R own w S v xs) : SliceR t k R' false w S v xs := by
 obtain ⟨a, c, h1, h2, h3, h | ⟨b, o, rfl, hb, hz, hf, he⟩⟩ := h
 ·exact ⟨a, c, h1, h2, h3, .inl ⟨h.1, fun h => by cases h⟩⟩
 ·exact ⟨_, c, h1, h2, h3, .inr ⟨b, o, rfl, hb, hz, (fun h => by cases h), fun i x hx => by
   obtain ⟨vs, g1, g2, g3⟩ := he i x hx;exact ⟨vs, g1, hRR _ _ g2, g3⟩⟩⟩
theorem SliceR.nil (t : TypeId) (k : Nat) (R : Rd α) (own : Bool) (w : World) (S : Nat → Prop) : SliceR t k R own w S (.slice none 0 0) [] := ⟨none, 0, rfl, zC _, by decide, .inl ⟨rfl, fun _ => rfl⟩⟩
theorem SliceR.empty (t : TypeId) (k : Nat) (R : Rd α) (own : Bool) (w : World) (S : Nat → Prop) (a : Option Addr) : SliceR t k R own w S (.slice a 0 0) [] := ⟨a, 0, rfl, zC _, by decide, .inl ⟨rfl, fun _ => rfl⟩⟩
theorem SliceR.shape (h : SliceR t k R own w S v xs) :
  ∃ a c, v = .slice a xs.length c ∧ xs.length ≤ c ∧ c ≤ maxLen ∧ ∀ i x, xs[i]? = some x → ∃ b o vs, a = some ⟨b, o, none⟩ ∧ b < w.heap.size ∧ S b ∧ vs.length = k ∧ R w S vs x ∧ ∀ j u, vs[j]? = some u → w.cell? ⟨b, o + i * k + j, none⟩ = some u := by
 obtain ⟨a, c, rfl, hc, hm, ⟨rfl, _⟩ | ⟨b, o, rfl, hb, hz, _, he⟩⟩ := h
 ·exact ⟨a, c, rfl, hc, hm, fun i x hx => by cases hx⟩
 ·exact ⟨_, c, rfl, hc, hm, fun i x hx => by
   obtain ⟨vs, h1, h2, h3⟩ := he i x hx;exact ⟨b, o, vs, rfl, hz, hb, h1, h2, h3⟩⟩
theorem SliceR.shape_own (h : SliceR t k R true w S v xs) :
  ∃ a c, v = .slice a xs.length c ∧ xs.length ≤ c ∧ c ≤ maxLen ∧ ∀ i x, xs[i]? = some x → ∃ b o vs cs, a = some ⟨b, o, none⟩ ∧ b < w.heap.size ∧ S b ∧ w.heap[b]? = some (.cells cs t) ∧ o + c * k ≤ cs.size ∧ vs.length = k ∧ R w S vs x ∧ ∀ j u, vs[j]? = some u → w.cell? ⟨b, o + i * k + j, none⟩ = some u := by
 obtain ⟨a, c, rfl, hc, hm, ⟨rfl, _⟩ | ⟨b, o, rfl, hb, hz, ho, he⟩⟩ := h
 ·exact ⟨a, c, rfl, hc, hm, fun i x hx => by cases hx⟩
 ·exact ⟨_, c, rfl, hc, hm, fun i x hx => by
   obtain ⟨vs, h1, h2, h3⟩ := he i x hx;obtain ⟨cs, g1, g2⟩ := ho rfl;exact ⟨b, o, vs, cs, rfl, hz, hb, g1, g2, h1, h2, h3⟩⟩
theorem SliceR.slice (h : SliceR t k R own w S v xs) : ∃ a c, v = .slice a xs.length c := by
 obtain ⟨a, c, rfl, _⟩ := h;exact ⟨a, c, rfl⟩
theorem SliceR.len {a : Option Addr} {n c : Nat} (h : SliceR t k R own w S (.slice a n c) xs) : n = xs.length ∧ xs.length ≤ c ∧ c ≤ maxLen := by
 obtain ⟨a', c', e, hc, hm, hx⟩ := h;cases e;exact ⟨rfl, hc, hm⟩
theorem SliceR.part {a : Option Addr} {n c : Nat} (h : SliceR t k R own w S (.slice a n c) xs) {i j m : Nat} (hij : i ≤ j) (hj : j ≤ xs.length) (hjm : j ≤ m) (hm : m ≤ c) : SliceR t k R own w S (sliced a i j m k) ((xs.drop i).take (j - i)) := by
 obtain ⟨a0, c0, e, hc, hcm, hx⟩ := h;cases e;have hl : ((xs.drop i).take (j - i)).length = j - i := by rw [List.length_take, List.length_drop]; omega
 refine ⟨_, m - i, by rw [hl]; rfl, by rw [hl]; omega, by omega, ?_⟩
 by_cases hi : m = i
 ·have : j - i = 0 := by omega
  rw [this];exact .inl ⟨by simp, fun _ => by omega⟩
 rcases hx with ⟨rfl, h0⟩ | ⟨b, o, rfl, hb, hz, hf, he⟩
 ·exact .inl ⟨by simp, fun ho => by have := h0 ho; omega⟩
 ·rw [if_neg hi]
  refine .inr ⟨b, o + i * k, ?_, hb, hz, fun ho => ?_, fun q x hq => ?_⟩
  ·show some ((⟨b, o, none⟩ : Addr).add (i * k)) = _
   unfold Addr.add
   split
   ·rename_i h0; rw [h0, Nat.add_zero]
   ·simp
  ·obtain ⟨cs, g1, g2⟩ := hf ho
   refine ⟨cs, g1, ?_⟩;have : i * k + (m - i) * k ≤ c * k := by rw [← Nat.add_mul]; exact Nat.mul_le_mul_right _ qC
   omega
  ·rw [List.getElem?_take] at hq
   split at hq
   ·rw [List.getElem?_drop] at hq
    obtain ⟨vs, g1, g2, g3⟩ := he _ _ hq;refine ⟨vs, g1, g2, fun p u hu => ?_⟩;have := g3 p u hu;rw [show o + i * k + q * k + p = o + (i + q) * k + p by rw [Nat.add_mul]; omega];exact this
   ·cases hq
theorem SliceR.take {a : Option Addr} {n c : Nat} (h : SliceR t k R own w S (.slice a n c) xs) {i : Nat} (hi : i ≤ xs.length) : SliceR t k R own w S (.slice a i c) (xs.take i) := by
 obtain ⟨a', c', e, hc, hm, hx⟩ := h;cases e;have hl : (xs.take i).length = i := by rw [List.length_take]; omega
 refine ⟨a, c, by rw [hl], by omega, hm, ?_⟩;rcases hx with ⟨rfl, h0⟩ | ⟨b, o, rfl, hb, hz, hf, he⟩
 ·exact .inl ⟨by simp, h0⟩
 ·refine .inr ⟨b, o, rfl, hb, hz, hf, fun j x hj => he j x ?_⟩
  rw [List.getElem?_take] at hj
  split at hj
  ·exact hj
  ·cases hj
end
theorem SliceR.cellAt {α : Type} {t : TypeId} {k : Nat} {R : Rd α} {w : World} {S : Nat → Prop} {a : Option Addr} {n c : Nat} {xs : List α} (h : SliceR t k R true w S (.slice a n c) xs) {i : Nat} (hi : i < xs.length) :
  ∃ b o, ∃ cs : Array Value, a = some ⟨b, o, none⟩ ∧ S b ∧ w.heap[b]? = some (.cells cs t) ∧ o + i * k + k ≤ cs.size := by
 obtain ⟨a', c', e, hc, hm, hx⟩ := h.shape_own;cases e;obtain ⟨b, o, vs, cs, rfl, hz, hb, g1, g2, _, _, _⟩ := hx i xs[i] (List.getElem?_eq_getElem hi);refine ⟨b, o, cs, rfl, hb, g1, ?_⟩;have : i * k + k ≤ c * k := by rw [← Nat.succ_mul]; exact Nat.mul_le_mul_right _ qC
 omega
def yX (n : Int) : List Value := [.int .i64 n]
def zBY (n : Int) : List Value := [.int .i32 n]
def xA (c : Cel) : List Value := [.int .i32 c.r, .int .i64 c.bits, .string ⟨c.href.toArray⟩]
abbrev jI := SliceR 3 1 (rdOf yX)
abbrev jC := SliceR 43 3 (rdOf xA)
def uK (own : Bool) : Rd Lin := fun w S vs l => ∃ a b, vs = [.int .i64 l.quote, a, .int .i64 l.kind, b] ∧ jI own w S a l.lists ∧ jC own w S b l.cells
theorem jW (own : Bool) : Stable (uK own) := ⟨fun _ _ _ _ _ _ ⟨a, b, h1, h2, h3⟩ hk hS => ⟨a, b, h1, SliceR.stable (jV _) h2 hk hS, SliceR.stable (jV _) h3 hk hS⟩⟩
theorem zIo {own : Bool} {w : World} {S : Nat → Prop} {vs : List Value} {l : Lin} : uK own w S vs l → uK false w S vs l :=
 fun ⟨a, b, h1, h2, h3⟩ => ⟨a, b, h1, h2.read fun _ _ h => h, h3.read fun _ _ h => h⟩
def DocR (own : Bool) := SliceR 47 4 (uK own) own
theorem DocR.below {own : Bool} {w w' : World} {S : Nat → Prop} {v : Value} {xs : List Lin} (h : DocR own w S v xs) (hb : Below w.heap.size w w') : DocR own w' S v xs := SliceR.below (jW own) h hb
abbrev jE (w : World) (S : Nat → Prop) (v : Value) (d : List Lin) : Prop := SliceR 47 4 (uK false) false w S v d
theorem DocR.read {own : Bool} {w : World} {S : Nat → Prop} {v : Value} {xs : List Lin} (h : DocR own w S v xs) : jE w S v xs := SliceR.read (fun _ _ h => zIo h) h
structure LinAt (w : World) (S : Nat → Prop) (b o : Nat) (l : Lin) (la : Option Addr) (lc : Nat) (ca : Option Addr) (cc : Nat) : Prop where
 lt : b < w.heap.size
 quote : w.cell? ⟨b, o, none⟩ = some (.int .i64 l.quote)
 lists : w.cell? ⟨b, o + 1, none⟩ = some (.slice la l.lists.length lc)
 kind : w.cell? ⟨b, o + 2, none⟩ = some (.int .i64 l.kind)
 cells : w.cell? ⟨b, o + 3, none⟩ = some (.slice ca l.cells.length cc)
 listsR : jI false w S (.slice la l.lists.length lc) l.lists
 cellsR : jC false w S (.slice ca l.cells.length cc) l.cells
theorem LinAt.below {w w' : World} {S : Nat → Prop} {b o : Nat} {l : Lin} {la ca : Option Addr} {lc cc : Nat} (h : LinAt w S b o l la lc ca cc) (hb : Below w.heap.size w w') : LinAt w' S b o l la lc ca cc :=
 ⟨Nat.lt_of_lt_of_le h.lt hb.size, (hb.cell h.lt).trans h.quote, (hb.cell h.lt).trans h.lists, (hb.cell h.lt).trans h.kind, (hb.cell h.lt).trans h.cells, h.listsR.below (jV _) hb, h.cellsR.below (jV _) hb⟩
theorem kP {w : World} {S : Nat → Prop} {v : Value} {d : List Lin} (h : jE w S v d) :
  ∃ a c, v = .slice a d.length c ∧ d.length ≤ c ∧ c ≤ maxLen ∧ ∀ i l, d[i]? = some l → ∃ b o la lc ca cc, a = some ⟨b, o, none⟩ ∧ LinAt w S b (o + i * 4) l la lc ca cc := by
 obtain ⟨a, c, rfl, hc, hm, hx⟩ := h.shape;refine ⟨a, c, rfl, hc, hm, fun i l hl => ?_⟩;obtain ⟨b, o, vs, rfl, hz, _, _, ⟨x, y, rfl, h1, h2⟩, he⟩ := hx i l hl;obtain ⟨la, lc, rfl⟩ := h1.slice;obtain ⟨ca, cc, rfl⟩ := h2.slice;exact ⟨b, o, la, lc, ca, cc, rfl, hz, he 0 _ rfl, he 1 _ rfl, he 2 _ rfl, he 3 _ rfl, h1, h2⟩
def celV (c : Cel) : Value := .agg #[.int .i32 c.r, .int .i64 c.bits, .string ⟨c.href.toArray⟩]
theorem uB {w : World} {S : Nat → Prop} {v : Value} {d : List Cel} (h : jC false w S v d) :
  ∃ a c, v = .slice a d.length c ∧ d.length ≤ c ∧ c ≤ maxLen ∧ ∀ i l, d[i]? = some l → ∃ b o, a = some ⟨b, o, none⟩ ∧ b < w.heap.size ∧ w.cell? ⟨b, o + i * 3, none⟩ = some (.int .i32 l.r) ∧ w.cell? ⟨b, o + i * 3 + 1, none⟩ = some (.int .i64 l.bits) ∧ w.cell? ⟨b, o + i * 3 + 2, none⟩ = some (.string ⟨l.href.toArray⟩) := by
 obtain ⟨a, c, rfl, hc, hm, hx⟩ := h.shape;refine ⟨a, c, rfl, hc, hm, fun i l hl => ?_⟩;obtain ⟨b, o, vs, rfl, hz, _, _, e, he⟩ := hx i l hl;cases e;exact ⟨b, o, rfl, hz, he 0 _ rfl, he 1 _ rfl, he 2 _ rfl⟩
theorem zAz {w : World} {S : Nat → Prop} {v : Value} {d : List Int} (h : jI false w S v d) :
  ∃ a c, v = .slice a d.length c ∧ d.length ≤ c ∧ c ≤ maxLen ∧ ∀ i l, d[i]? = some l → ∃ b o, a = some ⟨b, o, none⟩ ∧ b < w.heap.size ∧ w.cell? ⟨b, o + i, none⟩ = some (.int .i64 l) := by
 obtain ⟨a, c, rfl, hc, hm, hx⟩ := h.shape;refine ⟨a, c, rfl, hc, hm, fun i l hl => ?_⟩;obtain ⟨b, o, vs, rfl, hz, _, _, e, he⟩ := hx i l hl;cases e;have := he 0 _ rfl;rw [Nat.mul_one] at this;exact ⟨b, o, rfl, hz, this⟩
end Go.Proofs.Qw
namespace Go.Proofs.Qw
def zAd (c : Int) : Int :=
 if Lib.validRune c = false then 0 else if c < 32 then 1 else if c = 127 then 1 else if c = 32 ∨ c = 160 then 2 else if c = 65533 then 5
 else if 97 ≤ c ∧ c ≤ 122 then 3 else if 65 ≤ c ∧ c ≤ 90 then 3 else if 128 ≤ c then 3 else if 48 ≤ c ∧ c ≤ 57 then 4 else 5
def mayR (c : Int) : Bool := decide (1 < zAd c)
def xH (s : ByteArray) : Nat → Nat → List Int
 | 0, _ => []
 | f + 1, pos => if pos < s.size then ((Utf8.decode s pos).1 : Int) :: xH s f (pos + (Utf8.decode s pos).2) else []
def yW (s : ByteArray) : List Int := xH s s.size 0
def zAF (s : ByteArray) : Bool := (yW s).all mayR && (decide (s.size ≤ 200) && Lib.validD s.data.toList)
def zDm (s : List UInt8) : Bool := zAF ⟨s.toArray⟩
def lowR (c : Int) : Int := if 65 ≤ c ∧ c ≤ 90 then c + 32 else c
def javascript : List UInt8 := [106, 97, 118, 97, 115, 99, 114, 105, 112, 116]
def xR (s : List UInt8) : Bool :=
 zDm s && (decide (s ≠ []) && (decide (s.head? ≠ some 32) && (decide (s.getLast? ≠ some 32) && !(Lib.mapD lowR (Lib.cut s [58]).1 == javascript))))
def xP (s : List UInt8) : Bool := decide (s = []) || xR s
def mayC (c : Cel) : Bool := (mayR c.r || decide (c.r = 10)) && decide (0 ≤ c.bits) && decide (c.bits ≤ 15) && xP c.href
def kJ (l : List Cel) : Bool := l.all mayC
def mayL (l : Lin) : Bool :=
 decide (0 ≤ l.quote) && decide (l.quote ≤ 6) && decide (l.lists.length ≤ 6) && decide (0 ≤ l.kind) && decide (l.kind ≤ 3) && (decide (l.lists = []) || decide (l.kind = 0)) && l.lists.all (fun k => decide (k = 0 ∨ k = 1)) && kJ l.cells
abbrev Doc := List Lin
def jU (d : Doc) : Nat := (d.map (·.cells.length)).sum
def mayD (d : Doc) : Bool := decide (1 ≤ d.length) && decide (d.length ≤ 200) && decide (jU d ≤ 4000) && d.all mayL
structure Ps where
 line : Int
 col : Int
 deriving DecidableEq, Inhabited
def isD (d : Doc) (p : Ps) : Bool := decide (0 ≤ p.line) && decide (p.line < d.length) && decide (0 ≤ p.col) && decide (p.col ≤ ((d.getD p.line.toNat default).cells.length : Int))
def endD (d : Doc) : Ps := if d = [] then ⟨0, 0⟩ else ⟨d.length - 1, (d.getLastD default).cells.length⟩
def xV (d : Doc) (p : Ps) : Ps := if d = [] ∨ p.line < 0 then ⟨0, 0⟩ else if d.length ≤ p.line then endD d else ⟨p.line, min (max p.col 0) ((d.getD p.line.toNat default).cells.length : Int)⟩
def cmpI (a b : Int) : Int := if a < b then -1 else if b < a then 1 else 0
def cmpP (a b : Ps) : Int := if cmpI a.line b.line ≠ 0 then cmpI a.line b.line else cmpI a.col b.col
def Small (d : Doc) : Prop := jU d ≤ 100000 ∧ d.length ≤ 100000 ∧ ∀ l ∈ d, ∀ c ∈ l.cells, c.href.length ≤ 1000000
end Go.Proofs.Qw
namespace Go.Proofs.Qw
open Go.RowKit Go.Proofs.YtjgeadoncanheaaGreatDoor
open _root_.Nat renaming le_refl → zC, le_trans → zD
open _root_.Go.RowKit.Below renaming refl → zE
open _root_.List renaming getElem?_eq_some_iff → zK, length_append → zS
structure Tagged {α : Type} (t : TypeId) (R : Rd α) : Prop where
 go : ∀ (w w' : World) (S S' : Nat → Prop) (vs : List Value) (x : α), R w S vs x → w.heap.size ≤ w'.heap.size → (∀ b, S b → b < w.heap.size → (∀ cs, w.heap[b]? ≠ some (.cells cs t)) → w'.heap[b]? = w.heap[b]?) →
  (∀ b, S b → b < w.heap.size → S' b) → R w' S' vs x
structure Elt {α : Type} (t : TypeId) (k : Nat) (R : Rd α) : Prop where
 pos : 0 < k
 len : ∀ w S vs x, R w S vs x → vs.length = k
 ones : ∀ w S vs x, R w S vs x → ∀ u ∈ vs, u.oneCell' = true
 tag : Tagged t R
 st : Stable R
structure RowT (P : Program) (st t : TypeId) (k : Nat) : Prop where
 under : P.underlying st = some (.slice t)
 info : ∃ i z, P.info? t = some i ∧ i.zero = some z ∧ i.size = k ∧ i.bytes ≤ 256 ∧ z.cells.size = k
theorem RowT.mk' {P : Program} {st t : TypeId} {k y : Nat} {z : Value} (h : P.underlying st = some (.slice t)) (hi : (P.info? t).map (fun i => (i.zero, i.size, i.bytes)) = some (some z, k, y)) (hy : y ≤ 256) (hz : z.cells.size = k) : RowT P st t k := by
 obtain ⟨i, h1, h2, h3, h4⟩ := info_parts hi;exact ⟨h, i, z, h1, h2, h3, by omega, hz⟩
theorem jK {α : Type} (t : TypeId) (enc : α → List Value) : Tagged t (rdOf enc) := ⟨fun _ _ _ _ _ _ h _ _ _ => h⟩
theorem zCd {α : Type} (t : TypeId) {k : Nat} {enc : α → List Value} (h0 : 0 < k) (h1 : ∀ x, (enc x).length = k) (h2 : ∀ x, ∀ u ∈ enc x, u.oneCell' = true) : Elt t k (rdOf enc) :=
 ⟨h0, fun _ _ _ x h => h ▸ h1 x, fun _ _ _ x h => h ▸ h2 x, jK t enc, jV enc⟩
theorem SliceR.tagged {α : Type} {t s : TypeId} {k : Nat} {R : Rd α} (hR : Tagged t R) (hst : s ≠ t) : ∀ {w w' : World} {S S' : Nat → Prop} {v : Value} {xs : List α}, SliceR s k R true w S v xs → w.heap.size ≤ w'.heap.size →
  (∀ b, S b → b < w.heap.size → (∀ cs, w.heap[b]? ≠ some (.cells cs t)) → w'.heap[b]? = w.heap[b]?) → (∀ b, S b → b < w.heap.size → S' b) → SliceR s k R true w' S' v xs := by
 intro w w' S S' v xs h hz hk hS;obtain ⟨a, c, h1, h2, h3, h | ⟨b, o, rfl, hb, hz', hf, he⟩⟩ := h
 ·exact ⟨a, c, h1, h2, h3, .inl h⟩
 ·obtain ⟨cs, g1, g2⟩ := hf rfl
  have hsame : w'.heap[b]? = w.heap[b]? := hk b hb hz' (fun cs' e => by rw [g1] at e; cases e; exact hst rfl);refine ⟨_, c, h1, h2, h3, .inr ⟨b, o, rfl, hS b hb hz', Nat.lt_of_lt_of_le hz' hz, fun _ => ⟨cs, hsame.trans g1, g2⟩, fun i x hx => ?_⟩⟩;obtain ⟨vs, k1, k2, k3⟩ := he i x hx;exact ⟨vs, k1, hR.go _ _ _ _ _ _ k2 hz hk hS, fun j u hu => by rw [World.cell?_of_block (w := w) hsame]; exact k3 j u hu⟩
theorem zCy : ∀ (l : List Value) (w : World) (b o : Nat) (cs : Array Value) (t : TypeId) (f : Nat × Nat), w.heap[b]? = some (.cells cs t f) → o + l.length ≤ cs.size →
  ∃ cs' : Array Value, (w.setCells b o l).heap[b]? = some (.cells cs' t f) ∧ cs'.size = cs.size ∧ (∀ j, (j < o ∨ o + l.length ≤ j) → cs'[j]? = cs[j]?) ∧ (∀ j u, l[j]? = some u → cs'[o + j]? = some u)
 | [], w, b, o, cs, t, f, h, _ => ⟨cs, h, rfl, fun _ _ => rfl, fun j u hu => by cases hu⟩
 | v :: l, w, b, o, cs, t, f, h, hl => by
  have h1 : (w.setCell ⟨b, o, none⟩ v).heap[b]? = some (.cells (cs.setIfInBounds o v) t f) := by
   show (w.heap.modify b _)[b]? = _
   rw [Array.getElem?_modify, if_pos rfl, h]
   rfl
  simp only [List.length_cons] at hl;obtain ⟨cs', g1, g2, g3, g4⟩ := zCy l (w.setCell ⟨b, o, none⟩ v) b (o + 1) _ t f h1 jB;refine ⟨cs', g1, by rw [g2]; simp, fun j hj => ?_, fun j u hu => ?_⟩
  ·simp only [List.length_cons] at hj
   rw [g3 j qC, Array.getElem?_setIfInBounds];rw [if_neg qC]
  ·match j, hu with
   | 0, hu =>
    cases hu;rw [Nat.add_zero, g3 o qC, Array.getElem?_setIfInBounds, if_pos rfl, if_pos qC]
   | j + 1, hu =>
    have := g4 j u hu;rw [show o + (j + 1) = o + 1 + j by omega];exact this
theorem uP (b : Nat) : ∀ (l : List Value) (o : Nat) (w : World), (w.setCells b o l).heap.size = w.heap.size
 | [], _, _ => rfl
 | v :: l, o, w => by rw [World.setCells, uP b l]; simp
theorem zAi (b : Nat) : ∀ (l : List Value) (o : Nat) (w : World) (c : Nat), c ≠ b → (w.setCells b o l).heap[c]? = w.heap[c]?
 | [], _, _, _, _ => rfl
 | v :: l, o, w, c, h => by rw [World.setCells, zAi b l _ _ _ h, Below.heap_setCell _ _ _ _ h]
theorem zAZ (b : Nat) : ∀ (l : List Value) (o : Nat) (w : World), (w.setCells b o l).os = w.os ∧ (w.setCells b o l).tape = w.tape ∧ (w.setCells b o l).output = w.output
 | [], _, _ => ⟨rfl, rfl, rfl⟩
 | v :: l, o, w => by rw [World.setCells]; exact zAZ b l _ _
theorem zBB {n b o : Nat} {l : List Value} {w : World} (h : n ≤ b) : Below n w (w.setCells b o l) :=
 ⟨(zAZ b l o w).1, (zAZ b l o w).2.1, (zAZ b l o w).2.2, Nat.le_of_eq (uP b l o w).symm, fun c hc => zAi b l o w c qC⟩
theorem zBP {k : Nat} : ∀ (vss : List (List Value)) (i : Nat) (vs : List Value) (j : Nat) (u : Value), (∀ vs ∈ vss, vs.length = k) → vss[i]? = some vs → vs[j]? = some u → vss.flatten[i * k + j]? = some u
 | [], i, vs, j, u, _, h, _ => by cases h
 | x :: l, 0, vs, j, u, hk, h, hu => by
  cases h;rw [List.flatten_cons, List.getElem?_append_left (by have := (zK.1 hu).1; omega), Nat.zero_mul, Nat.zero_add];exact hu
 | x :: l, i + 1, vs, j, u, hk, h, hu => by
  have hx := hk x qE;rw [List.flatten_cons, List.getElem?_append_right (by rw [hx, Nat.add_mul]; omega), hx, show (i + 1) * k + j - k = i * k + j by rw [Nat.add_mul]; omega];exact zBP l i vs j u (fun y hy => hk y (by simp [hy])) h hu
theorem zEO {k : Nat} (hp : 0 < k) : ∀ (vss : List (List Value)) (j : Nat) (u : Value), (∀ vs ∈ vss, vs.length = k) → vss.flatten[j]? = some u → ∃ vs, vss[j / k]? = some vs ∧ vs[j % k]? = some u
 | [], j, u, _, h => by cases h
 | x :: l, j, u, hk, h => by
  have hx := hk x qE;rw [List.flatten_cons] at h
  by_cases hj : j < k
  ·rw [List.getElem?_append_left qC] at h
   rw [Nat.div_eq_of_lt hj, Nat.mod_eq_of_lt hj];exact ⟨x, rfl, h⟩
  ·rw [List.getElem?_append_right qC, hx] at h
   obtain ⟨vs, h1, h2⟩ := zEO hp l (j - k) u (fun y hy => hk y (by simp [hy])) h;rw [Nat.div_eq_sub_div hp qC, Nat.mod_eq_sub_mod qC];exact ⟨vs, h1, h2⟩
theorem zCJ {k : Nat} : ∀ (vss : List (List Value)), (∀ vs ∈ vss, vs.length = k) → vss.flatten.length = vss.length * k
 | [], _ => by simp
 | x :: l, hk => by
  rw [List.flatten_cons, zS, hk x qE, zCJ l (fun y hy => hk y (by simp [hy])), List.length_cons, Nat.add_mul]
  omega
theorem SliceR.cellss {α : Type} {t : TypeId} {k : Nat} {R : Rd α} {own : Bool} {w : World} {S : Nat → Prop} {v : Value} : ∀ {xs : List α}, SliceR t k R own w S v xs →
  ∃ vss : List (List Value), vss.length = xs.length ∧ (∀ vs ∈ vss, vs.length = k) ∧ ∀ i x, xs[i]? = some x → ∃ vs, vss[i]? = some vs ∧ R w S vs x ∧ ∃ a n c, v = .slice (some a) n c ∧ ∀ j u, vs[j]? = some u → w.cell? (a.add (i * k + j)) = some u := by
 intro xs h;obtain ⟨a, c, rfl, _, _, ⟨rfl, _⟩ | ⟨b, o, rfl, hb, hz, hf, he⟩⟩ := h
 ·exact ⟨[], rfl, (fun _ h => by cases h), fun i x hx => by cases hx⟩
 ·classical
  have hc : ∀ i : Fin xs.length, ∃ vs : List Value, vs.length = k ∧ R w S vs xs[i] ∧ ∀ j u, vs[j]? = some u → w.cell? ⟨b, o + i * k + j, none⟩ = some u := fun i => he i _ (List.getElem?_eq_getElem i.2);refine ⟨List.ofFn fun i => Classical.choose (hc i), by simp, fun vs hvs => ?_, fun i x hx => ?_⟩
  ·obtain ⟨i, rfl⟩ := List.mem_ofFn.1 hvs
   exact (Classical.choose_spec (hc i)).1
  ·have hi := (zK.1 hx).1
   have hxe : xs[i] = x := (zK.1 hx).2;have := Classical.choose_spec (hc ⟨i, hi⟩);subst hxe;refine ⟨_, by rw [List.getElem?_ofFn, dif_pos hi], this.2.1, ⟨b, o, none⟩, _, c, rfl, fun j u hu => ?_⟩;have h3 := this.2.2 j u hu;rw [show (⟨b, o, none⟩ : Addr).add (i * k + j) = ⟨b, o + i * k + j, none⟩ by unfold Addr.add; split <;> simp_all <;> omega];exact h3
theorem SliceR.src {P : Program} {st t : TypeId} {k : Nat} (hT : RowT P st t k) {α : Type} {R : Rd α} (hk : 0 < k) (hones : ∀ w S vs x, R w S vs x → ∀ u ∈ vs, u.oneCell' = true) {own : Bool} {w : World} {S : Nat → Prop} {v : Value} {xs : List α} (h : SliceR t k R own w S v xs) :
  ∃ news : List Value, Src P k st v xs.length news w ∧ ∀ i x, xs[i]? = some x → ∃ vs, vs.length = k ∧ R w S vs x ∧ ∀ j u, vs[j]? = some u → news[i * k + j]? = some u := by
 obtain ⟨vss, h1, h2, h3⟩ := h.cellss;have hlen := zCJ vss h2;obtain ⟨a, c, rfl, _, _⟩ := id h;refine ⟨vss.flatten, ?_, fun i x hx => ?_⟩
 ·have hone : ∀ u ∈ vss.flatten, u.oneCell' = true := by
   intro u hu;obtain ⟨vs, hvs, hu⟩ := List.mem_flatten.1 hu;obtain ⟨i, hi⟩ := List.getElem?_of_mem hvs;have hil := (zK.1 hi).1;obtain ⟨vs', g1, g2, _⟩ := h3 i xs[i] (List.getElem?_eq_getElem qC);rw [hi] at g1;cases g1;exact hones _ _ _ _ g2 u hu
  cases a with
  | none =>
   have hx : xs = [] := by
    cases xs with
    | nil => rfl
    | cons x l => obtain ⟨vs, _, _, a, _, _, e, _⟩ := h3 0 x rfl; cases e
   subst hx;rw [List.length_eq_zero_iff.1 h1];exact Src.ofNil w hT.under c
  | some a =>
   refine Src.ofSlice w hT.under a xs.length c _ (by rw [hlen, h1]) (fun j u hu => ?_) hone;obtain ⟨vs, g1, g2⟩ := zEO hk vss j u h2 hu;have hil := (zK.1 g1).1;obtain ⟨vs', g3, _, a', _, _, e, g4⟩ := h3 (j / k) _ (List.getElem?_eq_getElem qC);rw [g1] at g3;cases g3;cases e;have := g4 _ u g2
   rwa [Nat.div_add_mod' j k] at this
 ·obtain ⟨vs, g1, g2, _⟩ := h3 i x hx
  exact ⟨vs, h2 vs (List.mem_of_getElem? g1), g2, fun j u hu => zBP vss i vs j u h2 g1 hu⟩
theorem zFD {P : Program} {st t : TypeId} {k : Nat} (hT : RowT P st t k) (w : World) (l : List Value) (hl : l.length = k) (h1 : ∀ u ∈ l, u.oneCell' = true) (c : Nat) : Src P k st (.slice (some ⟨w.heap.size, 0, none⟩) 1 c) 1 l (w.alloc (.cells l.toArray t)) :=
 Src.ofSlice _ hT.under _ 1 c l qC (fun j u hu => by
  rw [show (⟨w.heap.size, 0, none⟩ : Addr).add j = ⟨w.heap.size, j, none⟩ by unfold Addr.add; split <;> simp_all];rw [World.cell?, World.alloc_heap_new]
  simpa using hu) h1
def NewsR {α : Type} (k : Nat) (R : Rd α) (w : World) (S : Nat → Prop) (news : List Value) (ys : List α) : Prop :=
 ∀ i y, ys[i]? = some y → ∃ vs, vs.length = k ∧ R w S vs y ∧ ∀ j u, vs[j]? = some u → news[i * k + j]? = some u
theorem NewsR.one {α : Type} {k : Nat} {R : Rd α} {w : World} {S : Nat → Prop} {l : List Value} {y : α} (hl : l.length = k) (h : R w S l y) : NewsR k R w S l [y] := fun i x hx => by
 match i, hx with
 | 0, hx => cases hx; exact ⟨l, hl, h, fun j u hu => by rw [Nat.zero_mul, Nat.zero_add]; exact hu⟩
theorem zDD {α : Type} (enc : α → List Value) (xs : List α) : xs.flatMap enc = (xs.map enc).flatten := List.flatMap_def ..
theorem zKk {α : Type} {k : Nat} {enc : α → List Value} (hk : ∀ x, (enc x).length = k) (xs : List α) : (xs.flatMap enc).length = xs.length * k := by
 rw [zDD, zCJ _ (fun vs h => by obtain ⟨x, _, rfl⟩ := List.mem_map.1 h; exact hk x), List.length_map]
theorem zEB {α : Type} {k : Nat} {enc : α → List Value} (hk : ∀ x, (enc x).length = k) (w : World) (S : Nat → Prop) (xs : List α) : NewsR k (rdOf enc) w S (xs.flatMap enc) xs := fun i y hy =>
 ⟨enc y, hk y, rfl, fun j u hu => by
  rw [zDD];exact zBP _ i (enc y) j u (fun vs h => by obtain ⟨x, _, rfl⟩ := List.mem_map.1 h; exact hk x) (by rw [List.getElem?_map, hy]; rfl) hu⟩
theorem zJn {α : Type} {k : Nat} {enc : α → List Value} (hp : 0 < k) (hk : ∀ x, (enc x).length = k) {w : World} {S : Nat → Prop} {news : List Value} {xs : List α} (hl : news.length = xs.length * k) (h : NewsR k (rdOf enc) w S news xs) : news = xs.flatMap enc := by
 apply List.ext_getElem?
 intro j
 by_cases hj : j < xs.length * k
 ·have hi : j / k < xs.length := Nat.div_lt_of_lt_mul (by rw [Nat.mul_comm]; exact hj)
  have hm : j % k < k := Nat.mod_lt _ hp;obtain ⟨vs, h1, h2, h3⟩ := h (j / k) xs[j / k] (List.getElem?_eq_getElem hi);obtain ⟨vs', h1', h2', h3'⟩ := zEB hk w S xs (j / k) xs[j / k] (List.getElem?_eq_getElem hi);have e : vs = vs' := by rw [show vs = _ from h2, show vs' = _ from h2']
  subst e;have hu : vs[j % k]? = some vs[j % k] := List.getElem?_eq_getElem qC;have a1 := h3 _ _ hu;have a2 := h3' _ _ hu;rw [Nat.div_add_mod' j k] at a1 a2;rw [a1, a2]
 ·rw [List.getElem?_eq_none qC, List.getElem?_eq_none (by rw [zKk hk]; omega)]
theorem SliceR.src_flat {P : Program} {st t : TypeId} {k : Nat} (hT : RowT P st t k) {α : Type} {enc : α → List Value} (hE : Elt t k (rdOf enc)) {own : Bool} {w : World} {S : Nat → Prop} {v : Value} {xs : List α} (h : SliceR t k (rdOf enc) own w S v xs) : Src P k st v xs.length (xs.flatMap enc) w := by
 obtain ⟨news, h1, h2⟩ := h.src hT hE.pos hE.ones;have hk : ∀ x, (enc x).length = k := fun x => hE.len w S _ x rfl;rw [← zJn hE.pos hk h1.newsLen h2];exact h1
theorem zDf {P : Program} {st tx ty t : TypeId} {k : Nat} (hT : RowT P st t k) {α : Type} {R : Rd α} (hE : Elt t k R) {w : World} {n : Nat} {v x : Value} {xs ys : List α} {news : List Value}
  (h1 : SliceR t k R true w (fun b => n ≤ b) v xs) (hn : n ≤ w.heap.size) (hs : Src P k tx x ys.length news w) (hnew : NewsR k R w (fun b => n ≤ b) news ys) (hlen : xs.length + ys.length ≤ 100000000) :
  ∃ v' w', (Builtin.append_ #[st, tx] ty #[v, x]).run P w = .ok v' w' ∧ SliceR t k R true w' (fun b => n ≤ b) v' (xs ++ ys) ∧ Below n w w' ∧ w.grownBy w' v.ownBlock ∧ (v'.ownBlock = v.ownBlock ∨ v'.ownBlock = some w.heap.size) := by
 obtain ⟨i, z, hi, hz, rfl, hby, hzs⟩ := hT.info;obtain ⟨a, c, rfl, hc, hcm, hx⟩ := h1;have hbytes : (xs.length + ys.length) * i.bytes ≤ 140737488355328 := zD (Nat.mul_le_mul hlen hby) qV
 by_cases hroom : xs.length + ys.length ≤ c
 ·rcases hx with ⟨rfl, h0⟩ | ⟨b, o, rfl, hb, hzb, hf, he⟩
  ·have h0 := h0 rfl
   have hy : ys = [] := List.length_eq_zero_iff.1 (by simp at hroom; omega);subst hy;have hnl : news = [] := List.length_eq_zero_iff.1 (by simpa using hs.newsLen);refine ⟨.slice a 0 c, w, ?_, ⟨a, c, rfl, Nat.zero_le _, hcm, .inl ⟨rfl, fun _ => h0⟩⟩, zE _ _, ⟨rfl, rfl, rfl, zC _, fun _ _ _ => rfl⟩, .inl rfl⟩
   have hcl : (Builtin.firstCells i.size 0 x).run P w = .ok #[] w := by
    have := hs.cells;rw [hnl] at this;exact this
   rcases hs.kind with ⟨e', hk⟩ | hk <;> cases a <;>
    simp [Builtin.append_, run_underlying hT.under, run_underlying hk, sizeOf, typeInfo, hi, hs.len, h0, hcl, storeCells, Result.andThen]
  ·obtain ⟨cs, g1, g2⟩ := hf rfl
   have hfit : o + xs.length * i.size + news.length ≤ cs.size := by
    rw [hs.newsLen];have : xs.length * i.size + ys.length * i.size ≤ c * i.size := by rw [← Nat.add_mul]; exact Nat.mul_le_mul_right _ hroom
    omega
   have hrun := run_append_room_src (P := P) w st tx ty t i hT.under hi b o xs.length c x ys.length news hs hroom
    (fun j hj => by rw [jR g1, Array.getElem?_eq_getElem qC]; rfl) (fun j hj => by rw [World.frozen?, g1]; simp)
   obtain ⟨cs', k1, k2, k3, k4⟩ := zCy news w b (o + xs.length * i.size) cs t (0, 0) g1 qC;have hoth := zAi b news (o + xs.length * i.size) w;have hsz := uP b news (o + xs.length * i.size) w;have hrest := zAZ b news (o + xs.length * i.size) w
   have hkeepR : ∀ vs x, R w (fun b => n ≤ b) vs x → R (w.setCells b (o + xs.length * i.size) news) (fun b => n ≤ b) vs x := fun vs x h =>
    hE.tag.go _ _ _ _ _ _ h (Nat.le_of_eq hsz.symm) (fun b' _ _ hno => hoth b' (fun e => hno cs (e ▸ g1))) (fun _ h _ => h)
   refine ⟨_, _, hrun, ⟨_, c, by rw [zS], by rw [zS]; exact hroom, hcm, .inr ⟨b, o, rfl, hb, by rw [hsz]; exact hzb, fun _ => ⟨cs', k1, by omega⟩, fun q y hq => ?_⟩⟩, zBB hb, ⟨hrest.1, hrest.2.1, hrest.2.2, Nat.le_of_eq hsz.symm, fun d _ hd => hoth d (fun e => hd (by rw [e]; rfl))⟩, .inl rfl⟩
   by_cases hqx : q < xs.length
   ·rw [List.getElem?_append_left hqx] at hq
    obtain ⟨vs, r1, r2, r3⟩ := he q y hq;refine ⟨vs, r1, hkeepR _ _ r2, fun j u hu => ?_⟩;have hj := (zK.1 hu).1;have hle : q * i.size + i.size ≤ xs.length * i.size := by rw [← Nat.succ_mul]; exact Nat.mul_le_mul_right _ hqx
    rw [jR k1, k3 _ (.inl qC), ← jR g1];exact r3 j u hu
   ·rw [List.getElem?_append_right qC] at hq
    obtain ⟨vs, r1, r2, r3⟩ := hnew _ y hq;refine ⟨vs, r1, hkeepR _ _ r2, fun j u hu => ?_⟩;have := k4 _ u (r3 j u hu)
    rw [jR k1, show o + q * i.size + j = o + xs.length * i.size + ((q - xs.length) * i.size + j) by
     have : q * i.size = xs.length * i.size + (q - xs.length) * i.size := by rw [← Nat.add_mul]; congr 1; omega
     omega]
    exact this
 ·-- it grows
  obtain ⟨olds, ho1, ho2⟩ : ∃ olds : List Value, (Builtin.firstCells i.size xs.length (.slice a xs.length c)).run P w.drew = .ok olds.toArray w.drew ∧ NewsR i.size R w (fun b => n ≤ b) olds xs ∧ olds.length = xs.length * i.size := by
   obtain ⟨news', q1, q2⟩ := SliceR.src (P := P) (st := st) hT hE.pos hE.ones (own := true) (w := w) (S := fun b => n ≤ b) (v := .slice a xs.length c) (xs := xs) ⟨a, c, rfl, hc, hcm, hx⟩;exact ⟨news', q1.cellsD, q2, q1.newsLen⟩
  have hrun := run_append_grow_src (P := P) w st tx ty t i z hT.under hi hz a xs.length c olds ho1 x ys.length news hs qC qC (growslice_fits qC hbytes);have hge := grownCap_ge w (xs.length + ys.length) c t;have hcm' := grownCap_le_maxLen w (xs.length + ys.length) c t (by unfold maxLen; omega)
  generalize hG : grownCap w (xs.length + ys.length) c t = G at *
  refine ⟨_, _, hrun, ⟨_, G, by rw [zS], by rw [zS]; exact hge, hcm', .inr ⟨w.heap.size, 0, rfl, hn, by simp, fun _ => ⟨_, World.alloc_heap_new _ _, ?_⟩, fun q y hq => ?_⟩⟩, ((zE _ _).drew).alloc hn _, ⟨rfl, rfl, rfl, by simp, fun d hd _ => Below.heap_alloc _ _ _ hd⟩, .inr rfl⟩
  ·simp only [Array.size_append, List.size_toArray, zS, size_zeroCells, hzs, ho2.2, hs.newsLen]
   have h9 : (xs.length + ys.length) * i.size + (G - (xs.length + ys.length)) * i.size = G * i.size := by rw [← Nat.add_mul]; congr 1; omega
   rw [Nat.add_mul] at h9
   omega
  ·have hK : Keeps (fun b => n ≤ b) w (w.drew.alloc (.cells ((olds ++ news).toArray ++ Builtin.zeroCells z.cells (G - (xs.length + ys.length))) t)) :=
    Keeps.all (((zE _ _).drew).alloc (zC _) _)
   have hcell : ∀ j u, (olds ++ news)[j]? = some u → (w.drew.alloc (.cells ((olds ++ news).toArray ++ Builtin.zeroCells z.cells (G - (xs.length + ys.length))) t)).cell? ⟨w.heap.size, j, none⟩ = some u := by
    intro j u hu;have hj := (zK.1 hu).1;rw [jR (w := w.drew.alloc _) (B := w.heap.size) (World.alloc_heap_new w.drew _), Array.getElem?_append_left (by simpa using hj)]
    simpa using hu
   by_cases hqx : q < xs.length
   ·rw [List.getElem?_append_left hqx] at hq
    obtain ⟨vs, r1, r2, r3⟩ := ho2.1 q y hq;refine ⟨vs, r1, hE.st.go _ _ _ _ _ _ r2 hK (fun _ h _ => h), fun j u hu => ?_⟩;have h3 := r3 j u hu;rw [Nat.zero_add];exact hcell _ u (by rw [List.getElem?_append_left (zK.1 h3).1]; exact h3)
   ·rw [List.getElem?_append_right qC] at hq
    obtain ⟨vs, r1, r2, r3⟩ := hnew _ y hq;refine ⟨vs, r1, hE.st.go _ _ _ _ _ _ r2 hK (fun _ h _ => h), fun j u hu => ?_⟩;have h3 := r3 j u hu;rw [Nat.zero_add];refine hcell _ u ?_
    rw [show q * i.size + j = olds.length + ((q - xs.length) * i.size + j) by
     rw [ho2.2];have : q * i.size = xs.length * i.size + (q - xs.length) * i.size := by rw [← Nat.add_mul]; congr 1; omega
     omega, List.getElem?_append_right qC]
    simpa using h3
theorem uO {P : Program} (w : World) {ops : Array Oper} {rest : List Oper} {o : Oper} {a : Act} {Q : Exit → Act → World → Prop} (hgd : o.guard = none) (s x : Operand) (st tx : TypeId)
  (ho : o.op = .call { callee := .builtin .append, args := #[s, x], argTypes := #[st, tx] }) {t : TypeId} {k : Nat} (hT : RowT P st t k) {α : Type} {R : Rd α} (hE : Elt t k R) (n : Nat) (v y : Value) {xs ys : List α} {news : List Value} (hs : a.eval s = v) (hx : a.eval x = y)
  (h1 : SliceR t k R true w (fun b => n ≤ b) v xs) (hn : n ≤ w.heap.size) (hsrc : Src P k tx y ys.length news w) (hnew : NewsR k R w (fun b => n ≤ b) news ys) (hlen : xs.length + ys.length ≤ 100000000)
  (h : ∀ v' w', SliceR t k R true w' (fun b => n ≤ b) v' (xs ++ ys) → Below n w w' → w.grownBy w' v.ownBlock → (v'.ownBlock = v.ownBlock ∨ v'.ownBlock = some w.heap.size) → wpList P ops Q rest (a.put o.dst v') w') :
  wpList P ops Q (o :: rest) a w := by
 refine wpList_plain hgd fun K hK => ?_;obtain ⟨v', w', hr, h2, h3, h4, h5⟩ := zDf (P := P) (ty := o.type) hT hE h1 hn hsrc hnew hlen;unfold Oper.wp execOp;simp only [ho, resolve, invoke, builtin, Sem.run_bind, Sem.run_pure, Result.andThen_ok, List.map_toArray, List.map_cons, List.map_nil, hs, hx, hr];exact hK _ _ (h v' w' h2 h3 h4 h5)
theorem SliceR.write {α : Type} {t : TypeId} {k : Nat} {R : Rd α} (hT : Tagged t R) (_hk : 0 < k) {w : World} {S : Nat → Prop} {b o n c : Nat} {xs ys : List α} {news : List Value} (h : SliceR t k R true w S (.slice (some ⟨b, o, none⟩) n c) xs) {p : Nat} (hp : p + ys.length ≤ xs.length)
  (hn : NewsR k R w S news ys) (hl : news.length = ys.length * k) : SliceR t k R true (w.setCells b (o + p * k) news) S (.slice (some ⟨b, o, none⟩) n c) (xs.take p ++ ys ++ xs.drop (p + ys.length)) := by
 obtain ⟨a', c', e, hc, hm, hx⟩ := h;cases e
 have hlen : (xs.take p ++ ys ++ xs.drop (p + ys.length)).length = xs.length := by
  rw [zS, zS, List.length_take, List.length_drop]; omega
 rcases hx with ⟨rfl, h0⟩ | ⟨b', o', e, hb, hz, hf, he⟩
 ·have hy : ys = [] := List.length_eq_zero_iff.1 (by have h9 : ([] : List α).length = 0 := rfl; omega)
  subst hy;have hnl : news = [] := List.length_eq_zero_iff.1 (by simpa using hl);subst hnl;exact ⟨_, c, by rw [hlen], by rw [hlen]; exact hc, hm, .inl ⟨by simp, h0⟩⟩
 ·cases e
  obtain ⟨cs, g1, g2⟩ := hf rfl
  have hfit : o + p * k + news.length ≤ cs.size := by
   rw [hl];have : p * k + ys.length * k ≤ c * k := by rw [← Nat.add_mul]; exact Nat.mul_le_mul_right _ qC
   omega
  obtain ⟨cs', k1, k2, k3, k4⟩ := zCy news w b (o + p * k) cs t (0, 0) g1 hfit
  have hkeep : ∀ vs x, R w S vs x → R (w.setCells b (o + p * k) news) S vs x := fun vs x h =>
   hT.go _ _ _ _ _ _ h (Nat.le_of_eq (uP _ _ _ _).symm) (fun b' _ _ hno => zAi b _ _ _ b' (fun e => hno cs (e ▸ g1))) (fun _ h _ => h)
  refine ⟨_, c, by rw [hlen], by rw [hlen]; exact hc, hm, .inr ⟨b, o, rfl, hb, by rw [uP]; exact hz, fun _ => ⟨cs', k1, by omega⟩, fun q x hq => ?_⟩⟩
  have old : ∀ q x, xs[q]? = some x → (q < p ∨ p + ys.length ≤ q) → ∃ vs : List Value, vs.length = k ∧ R (w.setCells b (o + p * k) news) S vs x ∧ ∀ j u, vs[j]? = some u → (w.setCells b (o + p * k) news).cell? ⟨b, o + q * k + j, none⟩ = some u := by
   intro q x hx hq;obtain ⟨vs, r1, r2, r3⟩ := he q x hx;refine ⟨vs, r1, hkeep _ _ r2, fun j u hu => ?_⟩;have hj := (zK.1 hu).1;rw [jR k1, k3 _ ?_, ← jR g1]
   ·exact r3 j u hu
   ·rcases hq with hq | hq
    ·left
     have : q * k + k ≤ p * k := by rw [← Nat.succ_mul]; exact Nat.mul_le_mul_right _ hq
     omega
    ·right
     have : p * k + ys.length * k ≤ q * k := by rw [← Nat.add_mul]; exact Nat.mul_le_mul_right _ hq
     omega
  by_cases h1 : q < p
  ·rw [List.append_assoc, List.getElem?_append_left uN, List.getElem?_take, if_pos h1] at hq
   exact old q x hq (.inl h1)
  ·rw [List.append_assoc, List.getElem?_append_right uN, List.length_take, Nat.min_eq_left qC] at hq
   by_cases h2 : q < p + ys.length
   ·rw [List.getElem?_append_left qC] at hq
    obtain ⟨vs, r1, r2, r3⟩ := hn _ x hq;refine ⟨vs, r1, hkeep _ _ r2, fun j u hu => ?_⟩;have := k4 _ u (r3 j u hu)
    rw [jR k1, show o + q * k + j = o + p * k + ((q - p) * k + j) by
     have : q * k = p * k + (q - p) * k := by rw [← Nat.add_mul]; congr 1; omega
     omega]
    exact this
   ·rw [List.getElem?_append_right qC, List.getElem?_drop, show p + ys.length + (q - p - ys.length) = q by omega] at hq
    exact old q x hq (.inr qC)
def zAN {α : Type} (R : Rd α) : Rd (Option α) := fun w S vs x => ∀ y, x = some y → R w S vs y
theorem zDU {α : Type} {t : TypeId} {R : Rd α} (h : Tagged t R) : Tagged t (zAN R) := ⟨fun _ _ _ _ _ _ hx hz hk hS y e => h.go _ _ _ _ _ _ (hx y e) hz hk hS⟩
theorem SliceR.opt {α : Type} {t : TypeId} {k : Nat} {R : Rd α} {own : Bool} {w : World} {S : Nat → Prop} {v : Value} {xs : List α} (h : SliceR t k R own w S v xs) : SliceR t k (zAN R) own w S v (xs.map some) := by
 obtain ⟨a, c, e, hc, hm, hx⟩ := h;refine ⟨a, c, by rw [List.length_map]; exact e, by rw [List.length_map]; exact hc, hm, ?_⟩;rcases hx with ⟨rfl, h0⟩ | ⟨b, o, e, hb, hz, hf, he⟩
 ·exact .inl ⟨rfl, h0⟩
 ·refine .inr ⟨b, o, e, hb, hz, hf, fun q x hq => ?_⟩
  rw [List.getElem?_map] at hq;cases hy : xs[q]? with
  | none => rw [hy] at hq; cases hq
  | some y =>
   rw [hy] at hq;cases hq;obtain ⟨vs, r1, r2, r3⟩ := he q y hy;exact ⟨vs, r1, fun _ e => by cases e; exact r2, r3⟩
theorem SliceR.unopt {α : Type} {t : TypeId} {k : Nat} {R : Rd α} {own : Bool} {w : World} {S : Nat → Prop} {v : Value} {xs : List α} (h : SliceR t k (zAN R) own w S v (xs.map some)) : SliceR t k R own w S v xs := by
 obtain ⟨a, c, e, hc, hm, hx⟩ := h;rw [List.length_map] at e hc;refine ⟨a, c, e, hc, hm, ?_⟩;rcases hx with ⟨h1, h0⟩ | ⟨b, o, e, hb, hz, hf, he⟩
 ·exact .inl ⟨List.map_eq_nil_iff.1 h1, h0⟩
 ·refine .inr ⟨b, o, e, hb, hz, hf, fun q x hq => ?_⟩
  obtain ⟨vs, r1, r2, r3⟩ := he q (some x) (by rw [List.getElem?_map, hq]; rfl);exact ⟨vs, r1, r2 x rfl, r3⟩
theorem SliceR.extend {α : Type} {t : TypeId} {k : Nat} {R : Rd α} {w : World} {S : Nat → Prop} {a : Option Addr} {n c : Nat} {zs : List (Option α)} (h : SliceR t k (zAN R) true w S (.slice a n c) zs) {m : Nat} (h1 : n ≤ m) (h2 : m ≤ c) :
  SliceR t k (zAN R) true w S (.slice a m c) (zs ++ List.replicate (m - n) none) := by
 obtain ⟨a', c', e, hc, hm, hx⟩ := h;cases e;have hl : (zs ++ List.replicate (m - zs.length) none).length = m := by rw [zS, List.length_replicate]; omega
 refine ⟨a, c, by rw [hl], by rw [hl]; exact h2, hm, ?_⟩;rcases hx with ⟨rfl, h0⟩ | ⟨b, o, e, hb, hz, hf, he⟩
 ·have := h0 rfl
  have hm0 : m = 0 := by omega
  subst hm0;exact .inl ⟨rfl, h0⟩
 ·refine .inr ⟨b, o, e, hb, hz, hf, fun q x hq => ?_⟩
  by_cases hlt : q < zs.length
  ·rw [List.getElem?_append_left hlt] at hq
   exact he q x hq
  ·rw [List.getElem?_append_right qC, List.getElem?_replicate] at hq
   split at hq
   ·cases hq
    obtain ⟨cs, g1, g2⟩ := hf rfl;have hb2 : q * k + k ≤ c * k := by rw [← Nat.succ_mul]; exact Nat.mul_le_mul_right _ qC
    refine ⟨List.ofFn fun j : Fin k => cs[o + q * k + j.1]'(by have := j.2; omega), by simp, (fun y e => by cases e), fun j u hu => ?_⟩;rw [List.getElem?_ofFn] at hu
    split at hu
    ·cases hu
     rw [jR g1, Array.getElem?_eq_getElem qC]
    ·cases hu
   ·cases hq
theorem zIn {P : Program} {st tx ty t : TypeId} {k : Nat} (hT : RowT P st t k) {w : World} {x : Value} {m : Nat} {news : List Value} (hs : Src P k tx x m news w) {b o p n c : Nat} (hm : m ≤ n - p) (hnc : n ≤ c)
  (hc : ∀ j, j < news.length → (w.cell? ⟨b, o + p * k + j, none⟩).isSome = true) (hf : ∀ j, j < news.length → w.frozen? ⟨b, o + p * k + j, none⟩ = false) :
  (Builtin.copy_ #[st, tx] ty #[sliced (some ⟨b, o, none⟩) p n c k, x]).run P w = .ok (.int .i64 m) (w.setCells b (o + p * k) news) := by
 obtain ⟨i, z, hi, hz, rfl, hby, hzs⟩ := hT.info;have hmin : Nat.min m (n - p) = m := Nat.min_eq_left hm
 by_cases hp : c = p
 ·have hm0 : m = 0 := by omega
  subst hm0;have hnl : news = [] := List.length_eq_zero_iff.1 (by simpa using hs.newsLen);subst hnl;have hcl : (Builtin.firstCells i.size 0 x).run P w = .ok #[] w := hs.cells;simp [Builtin.copy_, run_underlying hT.under, sizeOf, typeInfo, hi, sliced, hp, hs.len, hcl, storeCells, World.setCells, goInt, Result.andThen]
 ·have hst := run_storeCells_cells (P := P) b (o + p * i.size) news 0 w (by simpa using hc) (by simpa using hf) hs.one
  simp only [Nat.add_zero] at hst;have had : (⟨b, o, none⟩ : Addr).add (p * i.size) = ⟨b, o + p * i.size, none⟩ := Addr.add_lit ..;simp [Builtin.copy_, run_underlying hT.under, sizeOf, typeInfo, hi, sliced, hp, hs.len, hmin, hs.cells, had, hst, goInt, Result.andThen]
theorem zIU (z : Array Value) (n i j : Nat) (u : Value) (hi : i < n) (hu : z.toList[j]? = some u) : (Builtin.zeroCells z n).toList[i * z.size + j]? = some u := by
 have hj := (zK.1 hu).1;rw [Array.length_toList] at hj
 have hlt : i * z.size + j < n * z.size := by
  have : i * z.size + z.size ≤ n * z.size := by rw [← Nat.succ_mul]; exact Nat.mul_le_mul_right _ hi
  omega
 have hm : (i * z.size + j) % z.size = j := by rw [Nat.mul_comm, Nat.mul_add_mod]; exact Nat.mod_eq_of_lt hj
 have hzj : z[j]! = u := by
  rw [Array.getElem?_toList] at hu;rw [Array.getElem!_eq_getD, Array.getD_eq_getD_getElem?, hu]; rfl
 rw [Array.getElem?_toList, Array.getElem?_eq_getElem (by simpa [Builtin.zeroCells] using hlt)];simp [Builtin.zeroCells, hm, hzj]
theorem zBQ (z : Array Value) (n : Nat) : (Builtin.zeroCells z n).toList.length = n * z.size := by simp [Builtin.zeroCells]
theorem zEg {α : Type} {k : Nat} {R : Rd α} {w : World} {S : Nat → Prop} {z : Array Value} {x : α} (hz : z.size = k) (h : R w S z.toList x) (n : Nat) : NewsR k R w S (Builtin.zeroCells z n).toList (List.replicate n x) := fun i y hy => by
 rw [List.getElem?_replicate] at hy
 split at hy
 ·rename_i hi
  cases hy;exact ⟨z.toList, by rw [Array.length_toList]; exact hz, h, fun j u hu => by rw [← hz]; exact zIU z n i j u hi hu⟩
 ·cases hy
theorem zIT {z : Array Value} (h : ∀ u ∈ z.toList, u.oneCell' = true) (hp : 0 < z.size) (n : Nat) : ∀ u ∈ (Builtin.zeroCells z n).toList, u.oneCell' = true := by
 intro u hu;simp only [Builtin.zeroCells, Array.toList_map, List.mem_map] at hu;obtain ⟨i, _, rfl⟩ := hu;have hm : i % z.size < z.size := Nat.mod_lt _ hp;rw [Array.getElem!_eq_getD, Array.getD_eq_getD_getElem?, Array.getElem?_eq_getElem hm];exact h _ qE
theorem RowT.zero {P : Program} {st t : TypeId} {k : Nat} (hT : RowT P st t k) {z : Value} (hz : (P.info? t).bind (·.zero) = some z) : ∃ i, P.info? t = some i ∧ i.zero = some z ∧ i.size = k ∧ i.bytes ≤ 256 ∧ z.cells.size = k := by
 obtain ⟨i, z', h1, h2, h3, h4, h5⟩ := hT.info;rw [h1] at hz;simp only [Option.bind_some] at hz;rw [h2] at hz;cases hz;exact ⟨i, h1, h2, h3, h4, h5⟩
theorem zHE {P : Program} {st ty t : TypeId} {k : Nat} (hT : RowT P st t k) {z : Value} (hz : (P.info? t).bind (·.zero) = some z) (h1 : ∀ u ∈ z.cells.toList, u.oneCell' = true) (hk : 0 < k) {w : World} {b o p n c : Nat} (hpn : p ≤ n) (hnc : n ≤ c)
  (hc : ∀ j, j < (n - p) * k → (w.cell? ⟨b, o + p * k + j, none⟩).isSome = true) (hf : ∀ j, j < (n - p) * k → w.frozen? ⟨b, o + p * k + j, none⟩ = false) :
  (Builtin.clear_ #[st] ty #[sliced (some ⟨b, o, none⟩) p n c k]).run P w = .ok (.tuple #[]) (w.setCells b (o + p * k) (Builtin.zeroCells z.cells (n - p)).toList) := by
 obtain ⟨i, hi, hz', hs, hby, hzs⟩ := hT.zero hz
 by_cases hp : n - p = 0
 ·have e : (Builtin.zeroCells z.cells 0).toList = [] := by simp [Builtin.zeroCells]
  rw [hp, e]
  by_cases hcp : c = p <;> simp [Builtin.clear_, run_underlying hT.under, sliced, hp, hcp, World.setCells]
 ·have hcp : ¬ c = p := by omega
  have hst := run_storeCells_cells (P := P) b (o + p * k) (Builtin.zeroCells z.cells (n - p)).toList 0 w (by rw [zBQ, hzs]; simpa using hc) (by rw [zBQ, hzs]; simpa using hf) (zIT h1 qC _);simp only [Nat.add_zero] at hst;have had : (⟨b, o, none⟩ : Addr).add (p * k) = ⟨b, o + p * k, none⟩ := Addr.add_lit ..;obtain ⟨q, hq⟩ : ∃ q, n - p = q + 1 := ⟨n - p - 1, by omega⟩;rw [hq] at hst ⊢;simp [Builtin.clear_, run_underlying hT.under, zeroValue, typeInfo, hi, hz', sliced, hcp, hq, had, hst, Result.andThen]
theorem zDF {P : Program} {st tn ty t : TypeId} {k : Nat} (hT : RowT P st t k) {kn kq : IntKind} (htn : P.underlying tn = some (.int kn)) {z : Value} (hz : (P.info? t).bind (·.zero) = some z) {α : Type} {R : Rd α} (hE : Elt t k R) {w : World} {n : Nat} {a : Option Addr} {ln c : Nat} {xs : List α} {x0 : α}
  (h1 : SliceR t k R true w (fun b => n ≤ b) (.slice a ln c) xs) (hn : n ≤ w.heap.size) (h0 : ∀ w, R w (fun b => n ≤ b) z.cells.toList x0) {m : Nat} (hm : 0 < m) (hg : c < ln + m) (hlen : xs.length + m ≤ 100000000) :
  ∃ cap w', (Builtin.append_ #[st, tn] ty #[.slice a ln c, .int kq m]).run P w = .ok (.slice (some ⟨w.heap.size, 0, none⟩) (ln + m) cap) w' ∧ SliceR t k R true w' (fun b => n ≤ b) (.slice (some ⟨w.heap.size, 0, none⟩) (ln + m) cap) (xs ++ List.replicate m x0) ∧ Below w.heap.size w w' := by
 obtain ⟨i, hi, hz', rfl, hby, hzs⟩ := hT.zero hz;obtain ⟨hln, hc, hcm⟩ := h1.len;subst hln;have hbytes : (xs.length + m) * i.bytes ≤ 140737488355328 := zD (Nat.mul_le_mul hlen hby) qV;have hmb : m * i.bytes ≤ 281474976710656 := zD (Nat.mul_le_mul (show m ≤ 100000000 by omega) hby) qV;obtain ⟨olds, q1, q2⟩ := SliceR.src (P := P) (st := st) hT hE.pos hE.ones h1;have hrun := Lib.run_append_grow_zeros (P := P) w st tn ty t i z kq kn hT.under htn hi hz' a xs.length c olds q1.cellsD m hm hE.pos hg qC hmb (growslice_fits qC hbytes);have hge := grownCap_ge w (xs.length + m) c t;have hcm' := grownCap_le_maxLen w (xs.length + m) c t (by unfold maxLen; omega)
 generalize hG : grownCap w (xs.length + m) c t = G at *
 have hlen' : (xs ++ List.replicate m x0).length = xs.length + m := by simp
 refine ⟨G, _, hrun, ⟨_, G, by rw [hlen'], by rw [hlen']; exact hge, hcm', .inr ⟨w.heap.size, 0, rfl, hn, by simp, fun _ => ⟨_, World.alloc_heap_new _ _, ?_⟩, fun q y hq => ?_⟩⟩, ((zE _ _).drew).alloc (zC _) _⟩
 ·simp only [Array.size_append, List.size_toArray, size_zeroCells, hzs, q1.newsLen]
  have h9 : (xs.length + m) * i.size + (G - (xs.length + m)) * i.size = G * i.size := by rw [← Nat.add_mul]; congr 1; omega
  rw [Nat.add_mul] at h9
  omega
 ·have hK : Keeps (fun b => n ≤ b) w (w.drew.alloc (.cells (olds.toArray ++ Builtin.zeroCells z.cells m ++ Builtin.zeroCells z.cells (G - (xs.length + m))) t)) :=
   Keeps.all (((zE _ _).drew).alloc (zC _) _)
  have hcell : ∀ j u, (olds ++ (Builtin.zeroCells z.cells m).toList)[j]? = some u → (w.drew.alloc (.cells (olds.toArray ++ Builtin.zeroCells z.cells m ++ Builtin.zeroCells z.cells (G - (xs.length + m))) t)).cell? ⟨w.heap.size, j, none⟩ = some u := by
   intro j u hu;have hj := (zK.1 hu).1;rw [zS, zBQ] at hj;rw [jR (w := w.drew.alloc _) (B := w.heap.size) (World.alloc_heap_new w.drew _), Array.getElem?_append_left (by simp [size_zeroCells]; omega)];rw [show olds.toArray ++ Builtin.zeroCells z.cells m = (olds ++ (Builtin.zeroCells z.cells m).toList).toArray by simp]
   simpa using hu
  by_cases hqx : q < xs.length
  ·rw [List.getElem?_append_left hqx] at hq
   obtain ⟨vs, r1, r2, r3⟩ := q2 q y hq;refine ⟨vs, r1, hE.st.go _ _ _ _ _ _ r2 hK (fun _ h _ => h), fun j u hu => ?_⟩;have h3 := r3 j u hu;rw [Nat.zero_add];exact hcell _ u (by rw [List.getElem?_append_left (zK.1 h3).1]; exact h3)
  ·rw [List.getElem?_append_right qC] at hq
   obtain ⟨vs, r1, r2, r3⟩ := zEg (z := z.cells) (x := x0) (w := w.drew.alloc (.cells (olds.toArray ++ Builtin.zeroCells z.cells m ++ Builtin.zeroCells z.cells (G - (xs.length + m))) t)) hzs (h0 _) m _ y hq;refine ⟨vs, r1, r2, fun j u hu => ?_⟩;have h3 := r3 j u hu;rw [Nat.zero_add];refine hcell _ u ?_
   rw [show q * i.size + j = olds.length + ((q - xs.length) * i.size + j) by
    rw [q1.newsLen];have : q * i.size = xs.length * i.size + (q - xs.length) * i.size := by rw [← Nat.add_mul]; congr 1; omega
    omega, List.getElem?_append_right qC]
   simpa using h3
theorem SliceR.room {α : Type} {t : TypeId} {k : Nat} {R : Rd α} {w : World} {S : Nat → Prop} {b o n c : Nat} {xs : List α} (h : SliceR t k R true w S (.slice (some ⟨b, o, none⟩) n c) xs) (hc : 0 < c) : ∀ off, off < o + c * k → (w.cell? ⟨b, off, none⟩).isSome = true ∧ w.frozen? ⟨b, off, none⟩ = false := by
 obtain ⟨a', c', e, _, hm, hx⟩ := h;cases e;rcases hx with ⟨rfl, h0⟩ | ⟨b', o', e, hb, hz, hf, he⟩
 ·have := h0 rfl; omega
 ·cases e
  obtain ⟨cs, g1, g2⟩ := hf rfl;intro off ho;rw [jR g1, Array.getElem?_eq_getElem qC];exact ⟨rfl, xF g1⟩
theorem zAL {P : Program} {st tx ty t : TypeId} {k : Nat} (hT : RowT P st t k) {α : Type} {R : Rd α} (hR : Tagged t R) (hk : 0 < k) {w : World} {S : Nat → Prop} {b o n c : Nat} {xs ys : List α} (h : SliceR t k R true w S (.slice (some ⟨b, o, none⟩) n c) xs) {p q : Nat} (hq : q ≤ c) (hp : p + ys.length ≤ xs.length) (hle : p + ys.length ≤ q) (hpc : p < c)
  {x : Value} {news : List Value} (hs : Src P k tx x ys.length news w) (hn : NewsR k R w S news ys) :
  ∃ w', (Builtin.copy_ #[st, tx] ty #[.slice (some ⟨b, o + p * k, none⟩) (q - p) (c - p), x]).run P w = .ok (.int .i64 ys.length) w' ∧ SliceR t k R true w' S (.slice (some ⟨b, o, none⟩) n c) (xs.take p ++ ys ++ xs.drop (p + ys.length)) ∧ (∀ B, B ≤ b → Below B w w') ∧ w'.heap.size = w.heap.size ∧ (∀ d, d ≠ b → w'.heap[d]? = w.heap[d]?) := by
 have hroom := h.room qC;have hpy : p * k + ys.length * k ≤ c * k := by rw [← Nat.add_mul]; exact Nat.mul_le_mul_right _ qC
 have hrun := zIn (ty := ty) hT hs (b := b) (o := o) (p := p) (n := q) (c := c) qC hq (fun j hj => (hroom _ zCo).1) (fun j hj => (hroom _ zCo).2);have had : (⟨b, o, none⟩ : Addr).add (p * k) = ⟨b, o + p * k, none⟩ := Addr.add_lit ..;simp only [sliced, if_neg (show ¬ c = p by omega), Option.map_some, had] at hrun;exact ⟨_, hrun, h.write hR hk hp hn hs.newsLen, fun B hB => zBB hB, uP _ _ _ _, fun d hd => zAi b _ _ _ d hd⟩
theorem zFP {P : Program} {st ty t : TypeId} {k : Nat} (hT : RowT P st t k) {z : Value} (hz : (P.info? t).bind (·.zero) = some z) (h1 : ∀ u ∈ z.cells.toList, u.oneCell' = true) {α : Type} {R : Rd α} (hR : Tagged t R) (hk : 0 < k) {w : World} {S : Nat → Prop} {b o n c : Nat} {xs : List α} {x0 : α} (h0 : R w S z.cells.toList x0)
  (h : SliceR t k R true w S (.slice (some ⟨b, o, none⟩) n c) xs) {p : Nat} (hp : p < n) :
  ∃ w', (Builtin.clear_ #[st] ty #[.slice (some ⟨b, o + p * k, none⟩) (n - p) (c - p)]).run P w = .ok (.tuple #[]) w' ∧ SliceR t k R true w' S (.slice (some ⟨b, o, none⟩) n c) (xs.take p ++ List.replicate (n - p) x0) ∧ (∀ B, B ≤ b → Below B w w') ∧ w'.heap.size = w.heap.size ∧ (∀ d, d ≠ b → w'.heap[d]? = w.heap[d]?) := by
 obtain ⟨hl, hnc, _⟩ := h.len;have hroom := h.room qC;have hpy : p * k + (n - p) * k ≤ c * k := by rw [← Nat.add_mul]; exact Nat.mul_le_mul_right _ qC
 obtain ⟨i, hi, hz', hsz, hby, hzs⟩ := hT.zero hz;have hrun := zHE (ty := ty) hT hz h1 hk (b := b) (o := o) (p := p) (n := n) (c := c) qC qC (fun j hj => (hroom _ qC).1) (fun j hj => (hroom _ qC).2);have had : (⟨b, o, none⟩ : Addr).add (p * k) = ⟨b, o + p * k, none⟩ := Addr.add_lit ..;simp only [sliced, if_neg (show ¬ c = p by omega), Option.map_some, had] at hrun;have hw := h.write hR hk (p := p) (ys := List.replicate (n - p) x0) (by rw [List.length_replicate]; omega) (zEg hzs h0 _) (by rw [zBQ, hzs, List.length_replicate]);rw [List.length_replicate, List.drop_eq_nil_of_le qC, List.append_nil] at hw;exact ⟨_, hrun, hw, fun B hB => zBB hB, uP _ _ _ _, fun d hd => zAi b _ _ _ d hd⟩
theorem Keeps.only {S : Nat → Prop} {w w' : World} {b : Nat} (hs : w'.heap.size = w.heap.size) (h : ∀ d, d ≠ b → w'.heap[d]? = w.heap[d]?) (hb : ¬ S b) : Keeps S w w' := ⟨Nat.le_of_eq hs.symm, fun d hd _ => h d (fun e => hb (e ▸ hd))⟩
theorem zGi {P : Program} {st ty t : TypeId} (ht : P.underlying st = some (.slice t)) (a : Addr) (c : Nat) (w : World) : (Builtin.clear_ #[st] ty #[.slice (some a) 0 c]).run P w = .ok (.tuple #[]) w := by
 simp [Builtin.clear_, run_underlying ht]
theorem zIe {P : Program} {st tx ty t : TypeId} {k : Nat} (hT : RowT P st t k) {α : Type} {R : Rd α} (hR : Tagged t R) (hk : 0 < k) {w : World} {S : Nat → Prop} {b o n c : Nat} {xs ys : List α} (h : SliceR t k R true w S (.slice (some ⟨b, o, none⟩) n c) xs) {p : Nat} (hp : p + ys.length ≤ xs.length) (hpc : p < c)
  {x : Value} {news : List Value} (hs : Src P k tx x ys.length news w) (hn : NewsR k R w S news ys) :
  ∃ w', (Builtin.append_ #[st, tx] ty #[.slice (some ⟨b, o, none⟩) p c, x]).run P w = .ok (.slice (some ⟨b, o, none⟩) (p + ys.length) c) w' ∧ SliceR t k R true w' S (.slice (some ⟨b, o, none⟩) n c) (xs.take p ++ ys ++ xs.drop (p + ys.length)) ∧ (∀ B, B ≤ b → Below B w w') ∧ w'.heap.size = w.heap.size ∧ (∀ d, d ≠ b → w'.heap[d]? = w.heap[d]?) := by
 have hroom := h.room qC;obtain ⟨hl, hnc, _⟩ := h.len;have hpy : p * k + ys.length * k ≤ c * k := by rw [← Nat.add_mul]; exact Nat.mul_le_mul_right _ qC
 obtain ⟨i, z, hi, hz, rfl, hby, hzs⟩ := hT.info;have hrun := run_append_room_src (P := P) w st tx ty t i hT.under hi b o p c x ys.length news hs qC (fun j hj => (hroom _ zCo).1) (fun j hj => (hroom _ zCo).2);exact ⟨_, hrun, h.write hR hk hp hn hs.newsLen, fun B hB => zBB hB, uP _ _ _ _, fun d hd => zAi b _ _ _ d hd⟩
theorem NewsR.opt {α : Type} {k : Nat} {R : Rd α} {w : World} {S : Nat → Prop} {news : List Value} {ys : List α} (h : NewsR k R w S news ys) : NewsR k (zAN R) w S news (ys.map some) := fun i y hy => by
 rw [List.getElem?_map] at hy;cases hx : ys[i]? with
 | none => rw [hx] at hy; cases hy
 | some x =>
  rw [hx] at hy;cases hy;obtain ⟨vs, h1, h2, h3⟩ := h i x hx;exact ⟨vs, h1, fun _ e => by cases e; exact h2, h3⟩
theorem SliceR.set1 {α : Type} {t : TypeId} {k : Nat} {R : Rd α} (hT : Tagged t R) {w : World} {S : Nat → Prop} {b o n c : Nat} {xs : List α} (h : SliceR t k R true w S (.slice (some ⟨b, o, none⟩) n c) xs) {i j : Nat} {x x' : α} (hi : xs[i]? = some x) (hj : j < k) (u : Value)
  (hR : ∀ vs, vs.length = k → R w S vs x → R w S (vs.set j u) x') : SliceR t k R true (w.setCell ⟨b, o + i * k + j, none⟩ u) S (.slice (some ⟨b, o, none⟩) n c) (xs.set i x') := by
 obtain ⟨a', c', e, hc, hm, hx⟩ := h;cases e;have hil := (zK.1 hi).1;refine ⟨_, c, by rw [List.length_set], by rw [List.length_set]; exact hc, hm, ?_⟩;rcases hx with ⟨rfl, h0⟩ | ⟨b', o', e, hb, hz, hf, he⟩
 ·cases hi
 ·cases e
  obtain ⟨cs, g1, g2⟩ := hf rfl;have k1 : (w.setCell ⟨b, o + i * k + j, none⟩ u).heap[b]? = some (.cells (cs.setIfInBounds (o + i * k + j) u) t) := by rw [jL, if_pos rfl, g1]; rfl
  have hkeep : ∀ vs x, R w S vs x → R (w.setCell ⟨b, o + i * k + j, none⟩ u) S vs x := fun vs x h =>
   hT.go _ _ _ _ _ _ h qE (fun b' _ _ hno => by rw [jL, if_neg (fun (e : b = b') => hno cs (e ▸ g1))]) (fun _ h _ => h)
  have hsz : i * k + k ≤ c * k := by rw [← Nat.succ_mul]; exact Nat.mul_le_mul_right _ qC
  refine .inr ⟨b, o, rfl, hb, by simpa using hz, fun _ => ⟨_, k1, by simpa using g2⟩, fun q y hq => ?_⟩
  by_cases hqi : i = q
  ·subst hqi
   rw [List.getElem?_set_self hil] at hq;cases hq;obtain ⟨vs, r1, r2, r3⟩ := he i x hi;refine ⟨vs.set j u, by rw [List.length_set]; exact r1, hkeep _ _ (hR vs r1 r2), fun p v hp => ?_⟩;rw [jR k1, Array.getElem?_setIfInBounds]
   by_cases hjp : j = p
   ·subst hjp
    rw [List.getElem?_set_self qC] at hp;cases hp;rw [if_pos rfl, if_pos qC]
   ·rw [List.getElem?_set_ne hjp] at hp
    rw [if_neg qC, ← jR g1];exact r3 p v hp
  ·rw [List.getElem?_set_ne hqi] at hq
   obtain ⟨vs, r1, r2, r3⟩ := he q y hq;refine ⟨vs, r1, hkeep _ _ r2, fun p v hp => ?_⟩;have hpk : p < k := by rw [← r1]; exact (zK.1 hp).1
   rw [jR k1, Array.getElem?_setIfInBounds, if_neg ?_, ← jR g1]
   ·exact r3 p v hp
   ·intro e
    have e2 : i * k + j = q * k + p := by omega
    have h1 : (i * k + j) / k = i := by rw [Nat.mul_comm, Nat.mul_add_div qC, Nat.div_eq_of_lt hj, Nat.add_zero]
    have h2 : (q * k + p) / k = q := by rw [Nat.mul_comm, Nat.mul_add_div qC, Nat.div_eq_of_lt hpk, Nat.add_zero]
    rw [e2] at h1
    omega
end Go.Proofs.Qw
namespace Go.Proofs.Qw
open Go.RowKit
section
variable {F : Fence} {n : Nat} {P : Program} {ops : Array Oper} {md : Region.Mode} {C : World → Prop}
def vL (o : Oper) : Bool := match o.op with | .defer _ => false | _ => true
theorem zEz {o : Oper} (h : vL o = true) : ∀ c, o.op ≠ .defer c := by
 intro c e;unfold vL at h;rw [e] at h;cases h
theorem zGf {o : Oper} {a : Act} {K : Act → Prop} {K' : Act → World → Prop} {Q' : Exit → Act → World → Prop} {w : World} (hro : vL o = true) (hw : C w) (h : ∀ a w', C w' → K a → K' a w')
  (ha : o.askedIn F P a C) (hh : o.quietIn F n P a C K) : o.wpIn F n P a w K' Q' := by
 obtain ⟨v, h1, h2⟩ := hh;have h3 := h1 w hw;unfold Oper.quietAtIn at h3;unfold Oper.wpIn;refine ⟨ha w hw, ?_⟩;rw [Oper.semAt_plain F _ _ (zEz hro)]
 generalize (execOp a.eval o).run P w = r at *
 cases r with
 | ok x w' =>
  cases x <;> simp only [Oper.quietUponIn] at h3 <;> simp only [Oper.uponIn]
  case value u =>
   obtain ⟨e1, e2⟩ := h3;rw [e1, e2];exact h _ _ hw h2
  case skip =>
   obtain ⟨e1, e2⟩ := h3;rw [e1, ← e2];exact h _ _ hw h2
  case enter f args =>
   obtain ⟨e1, hd, hc⟩ := h3;rw [e1];exact ⟨hd, hc.mono fun e w'' ⟨he, hw''⟩ => by subst he; exact h _ _ hw'' h2⟩
 | halt x w' => simp only [Oper.quietUponIn] at h3
theorem zFY {i : Nat} {a : Act} {K : Act → Prop} {K' : Act → World → Prop} {Q' : Exit → Act → World → Prop} {w : World} (hnd : ∀ (i : Nat) (o : Oper), ops[i]? = some o → vL o = true) (hC : C w) (h : ∀ a w', C w' → K a → K' a w')
  (hh : qOpIn F n P ops C i K a) : wpOpIn F n P ops Q' i K' a w := by
 unfold qOpIn at hh;unfold wpOpIn
 split
 ·rename_i ho; simp only [ho] at hh; exact h _ _ hC hh
 ·rename_i o ho
  simp only [ho] at hh;obtain ⟨ha, hh⟩ := hh
  split
  ·rename_i hw; simp only [hw, if_true] at hh; exact zGf (hnd _ _ ho) hC h ha hh
  ·rename_i hw; simp only [hw] at hh; exact ⟨ha w hC, h _ _ hC hh⟩
theorem zDB {Q : Act → Prop} {Q' : Exit → Act → World → Prop} (hnd : ∀ (i : Nat) (o : Oper), ops[i]? = some o → vL o = true) (hQ : ∀ a w, C w → Q a → Q' .normal a w) : ∀ (fuel : Nat) (listed : Array Bool) (a : Act) (w : World), C w →
  wpAnyQIn F n P md ops C Q fuel listed a → wpAnyIn F n P md ops Q' fuel listed a w
 | 0, _, _, _, hw, h => ⟨h.1, hQ _ _ hw h.2⟩
 | fuel + 1, _, _, _, hw, h => ⟨fun h0 => hQ _ _ hw (h.1 h0), fun i hi => zFY hnd hw (fun a' w' hw' => zDB hnd hQ fuel _ a' w' hw') (h.2 i hi)⟩
theorem zDy {id : Nat} {Q : Exit → Act → World → Prop} {a : Act} {w : World} {l : List Oper} (hnd : l.all vL = true) (hm : P.follows .mixedOrders = true) (hB : Region.lexB .any l.toArray = true)
  (h : wpQuietIn F n P l.toArray (fun w' => ∃ n, w' = w.drewN n) (fun a' => ∀ w', (∃ n, w' = w.drewN n) → Q .normal a' w') l a) : (Code.region id l.toArray true).wpIn F n P Q a w := by
 have hnd2 : ∀ (i : Nat) (o : Oper), l.toArray[i]? = some o → vL o = true := fun i o ho => by
  rw [List.all_eq_true] at hnd;exact hnd o (List.mem_of_getElem? (by simpa using ho))
 simp only [Region.lexB, Bool.and_eq_true] at hB;refine wpIn_region_any hm (zDB (C := fun w' => ∃ n, w' = w.drewN n) (Q := fun a' => ∀ w', (∃ n, w' = w.drewN n) → Q .normal a' w') hnd2 (fun _ w' hw' h => h w' hw') _ _ _ _ ⟨1, rfl⟩ ?_);have := wpAnyQIn_lex (F := F) (n := n) (C := fun w' => ∃ n, w' = w.drewN n) (md := .any) hB.1 l.toArray.toList 0 (Array.replicate l.toArray.size false) a qE (by simpa using hB.2) (by simpa using h)
 simpa using this
end
section
variable {n l : Nat} {P : Program} {ops : Array Oper} {md : Region.Mode}
def zAq (R : Act → World → Prop) : Exit → Act → World → Prop
 | .normal, a, w => R a w
 | _, _, _ => False
theorem zEJ {R : Act → World → Prop} : ¬ LetsOut (zAq R) := fun ⟨_, _, h⟩ => h
theorem zDM {R : Act → World → Prop} : ∀ {e : Exit} {a : Act} {w : World}, zAq R e a w → e = .normal ∧ R a w
 | .normal, _, _, h => ⟨rfl, h⟩
theorem zHs {o : Oper} {a : Act} {K : Act → World → Prop} {R : Act → World → Prop} {Q : Exit → Act → World → Prop} {w : World} (hro : vL o = true) (h : o.wp P a w K (zAq R)) : o.wpIn (Fence.wide.inRound l) n P a w K Q := by
 refine ⟨fun _ _ => trivial, ?_⟩;rw [Oper.semAt_eq _ _ _ (zEz hro)];unfold Oper.wp at h;have hd : ∀ m : Nat, ((Fence.wide.inRound l).depth.isSome = true → 1 ≤ m) := fun _ h => by cases h
 generalize (execOp a.eval o).run P w = r at *
 cases r with
 | ok x w' =>
  cases x <;> simp only [Oper.upon, Oper.uponIn] at h ⊢
  case value u => exact h
  case skip => exact h
  case defer d => exact h
  case enter f args =>
   refine ⟨hd _, CallsIn.inRound l (callsIn_wide.2 (h.mono fun e w'' he => ?_))⟩;cases e with
   | returned u => exact he
   | panicked c => exact he.elim
   | outgrown => exact (zEJ he).elim
  case row row args => exact ⟨hd _, fun c cs _ => let ⟨v, w', r, s⟩ := h c cs; ⟨v, w', r, stepsIn_wide.2 s⟩⟩
 | halt x w' =>
  cases x <;> simp only [Oper.upon, Oper.uponIn] at h ⊢
  case panic u => exact h.elim
theorem zBx {R : Act → World → Prop} {Q : Exit → Act → World → Prop} (hnd : ∀ (i : Nat) (o : Oper), ops[i]? = some o → vL o = true) (hQ : ∀ a w, R a w → Q .normal a w) : ∀ (fuel : Nat) (listed : Array Bool) (a : Act) (w : World),
  wpAny P md ops (zAq R) fuel listed a w → wpAnyIn (Fence.wide.inRound l) n P md ops Q fuel listed a w
 | 0, _, _, _, h => ⟨h.1, hQ _ _ h.2⟩
 | fuel + 1, _, _, _, h => ⟨fun h0 => hQ _ _ (h.1 h0), fun i hi => by
   have h2 := h.2 i hi;unfold wpOp at h2;unfold wpOpIn
   split
   ·rename_i ho
    simp only [ho] at h2;exact zBx hnd hQ fuel _ _ _ h2
   ·rename_i o ho
    simp only [ho] at h2
    split
    ·rename_i hw
     simp only [hw, if_true] at h2;rcases h2 with h2 | h2
     ·exact Oper.wpIn_mono (fun a' w' h' => zBx hnd hQ fuel _ _ _ h') (zHs (hnd _ _ ho) h2)
     ·exact (zEJ h2.2).elim
    ·rename_i hw
     simp only [hw] at h2;exact ⟨fun _ _ => trivial, zBx hnd hQ fuel _ _ _ h2⟩⟩
theorem zDA {id : Nat} {S : World → Prop} {Q : Exit → Act → World → Prop} {a : Act} {w : World} (hnd : ops.toList.all vL = true) (hm : P.follows .mixedOrders = true) (hS : S w.drew)
  (h : ∀ R : Act → World → Prop, Shut (∀ a w, Q .normal a w → R a w) → S w.drew → wpAnyH P .any ops (zAq R) S ops.size (Array.replicate ops.size false) a w.drew) : (Code.region id ops true).wpIn (Fence.wide.inRound l) n P Q a w := by
 have hnd2 : ∀ (i : Nat) (o : Oper), ops[i]? = some o → vL o = true := fun i o ho => by
  rw [List.all_eq_true] at hnd;exact hnd o (List.mem_of_getElem? (by simpa using ho))
 exact wpIn_region_any hm (zBx hnd2 (fun _ _ h => h) _ _ _ _ (wpAny_of_held _ _ _ _ (h (Q .normal) (fun _ _ h => h) hS)))
end
end Go.Proofs.Qw
namespace Go.Proofs.YtjgeadoncanheaaGreatDoor
open Go.RowKit
theorem zBa {P : Program} {F : Fence} {n : Nat} {α : Type} {g : Operand} {ps : Array Tmp} {assign body : Code} {Q : Exit → Act → World → Prop} {a : Act} {w : World}
  (hro : F.round = none) (h1 : 1 ≤ n) {gf : Nat} {lb : Array Value} (hg : a.eval g = .func (.func gf) #[] lb) (hFg : F.fn gf) (eg : ∀ args w, (callFunc gf args).run P w = .ok (.enter gf args) w)
  {encs : α → Array Value} {n₀ base : Nat} {S Sp : List α → Prop} {N : Nat} {w0 : World} (hseq : SeqStopsK F (n - 1) P gf lb encs (Kp n₀ base) S Sp N w0)
  (hn : n₀ ≤ w.heap.size) (hb0 : Below w0.heap.size w0 w) (hps : ∀ x, (encs x).size = ps.size)
  (I : List α → World → Prop) (Ix : Code → List α → World → Prop) (hI : OwnFrom w.heap.size I) (hIx : ∀ c, OwnFrom w.heap.size (Ix c)) (h0 : I [] w) (hIz : ∀ pre W, I pre W → w.heap.size ≤ W.heap.size)
  (rc : α → Array Value) (rt : TypeId) (act : Nat → α → Act)
  (hassign : ∀ (l : Nat) (pre : List α) (x : α) (W : World) (K : Act → World → Prop) (Bx : Nat), Bx = W.heap.size → I pre W → K (act Bx x) (W.alloc (.cells (rc x) rt)) →
   assign.wpIn (F.inRound l) (n - 1 - 1) P (Exit.then K (fun _ _ _ => False)) { tmps := (ps.zip (encs x)).foldl (fun t (p, v) => t.setIfInBounds p v) a.tmps, defers := [] } W)
  (hbody : ∀ (l : Nat) (pre : List α) (x : α) (Bx : Nat) (W : World), I pre W → w.heap.size ≤ Bx → W.heap[Bx]? = some (.cells (rc x) rt) → pre.length < N → body.wpIn (F.inRound l) (n - 1 - 1) P (ownPostG w.heap.size (Kp n₀ base) I Ix (pre ++ [x]) W) (act Bx x) W)
  (hdone : ∀ (D : Nat) (xs : List α) (W : World), w.heap.size ≤ D → S xs → I xs W → W.heap[D]? = some (.deferred (some [])) → Q .normal { a with defers := { target := .collected D, args := #[] } :: a.defers } W)
  (hstop : ∀ (D : Nat) (c : Code) (pre : List α) (W : World), w.heap.size ≤ D → Sp pre → Ix c pre W → W.heap[D]? = some (.deferred (some [])) → c.wpIn F n P Q { a with defers := { target := .collected D, args := #[] } :: a.defers } W) :
  (Code.rangeFunc g ps assign body).wpIn F n P Q a w := by
 refine wpIn_rangeFunc_ownH hro h1 hg hFg eg hseq (fun h k => h.t k) (Kp.b hn) hb0 hps I Ix hI hIx h0
  (fun x a' W => ∃ Bx, w.heap.size ≤ Bx ∧ W.heap[Bx]? = some (.cells (rc x) rt) ∧ a' = act Bx x) ?_ ?_ ?_ hdone hstop
 ·intro x a' _ X Y row hs hg hr
  obtain ⟨Bx, h1, h2, h3⟩ := hs;exact ⟨Bx, h1, (hg.block Bx (Array.getElem?_eq_some_iff.1 h2).1 (fun e => by obtain ⟨_, o, ho, hc⟩ := hr Bx e.symm; rw [h2] at ho; cases ho; cases hc)).trans h2, h3⟩
 ·intro l pre x W K hi hK
  exact hassign l pre x W K _ rfl hi (hK _ _ ((KeepsOthers.alloc _ _).from _) (Kp.of_below (Nat.le_trans hn (hIz _ _ hi)) ((Below.refl _ _).alloc (Nat.le_refl _) _)) (hI.alloc _ hi) ⟨_, hIz _ _ hi, jD _ _ rfl, rfl⟩)
 ·intro l pre x a' W hl hr hi ha hlt
  obtain ⟨Bx, h1, h2, rfl⟩ := ha;exact hbody l pre x Bx W hi h1 h2 hlt
end Go.Proofs.YtjgeadoncanheaaGreatDoor
namespace Go.Proofs
open Go.Shelf
open _root_.Go.Proofs.Tryz renaming prog → zV
def Tryz.lays119_ren : Go.Shelf.Ren := ⟨fun | 119 => 238 | n => n, fun | 21 => 21 | 4 => 4 | n => n, fun | n => n⟩
theorem Tryz.lays119 : Go.Proofs.Lays.n119 zV Tryz.lays119_ren := {
 mixed := by kernel_rfl
 f119 := Tryz.func238.trans (congrArg some zT)
 t4 := Tryz.underlying4
 a4 := Tryz.isAgg4
 z4 := Tryz.sizeOf4
 v4 := Tryz.zeroValue4
 t21 := Tryz.underlying21
 a21 := Tryz.isAgg21
 z21 := Tryz.sizeOf21
 v21 := Tryz.zeroValue21 }
theorem Tryz.utf8_ValidRune (r : Int) (w : World) :
  Calls zV 238 #[.int .i32 r] w fun e w' => e = .returned (.bool (Lib.validRune r)) ∧ w' = w := Any.utf8_ValidRune Tryz.lays119 r w
def Tryz.lays122_ren : Go.Shelf.Ren := ⟨fun | 122 => 153 | 215 => 208 | n => n, fun | 3 => 3 | 4 => 4 | n => n, fun | n => n⟩
theorem Tryz.lays122 : Go.Proofs.Lays.n122 zV Tryz.lays122_ren := {
 mixed := by kernel_rfl
 f122 := Tryz.func153.trans (congrArg some zT)
 f215 := Tryz.func208.trans (congrArg some zT)
 t3 := Tryz.underlying3
 a3 := Tryz.isAgg3
 z3 := Tryz.sizeOf3
 v3 := Tryz.zeroValue3
 t4 := Tryz.underlying4
 a4 := Tryz.isAgg4
 z4 := Tryz.sizeOf4
 v4 := Tryz.zeroValue4 }
open Go.RowKit in
theorem Tryz.cmp_Compare_int (x y : Int) (w : World) :
  Calls zV 153 #[.int .i64 x, .int .i64 y] w fun e w' => e = .returned (.int .i64 (Lib.compareInt x y)) ∧ w' = w := Any.cmp_Compare_int Tryz.lays122 x y w
def Tryz.laysM145_ren : Go.Shelf.Ren := ⟨fun | 145 => 184 | 220 => 222 | 219 => 240 | 217 => 245 | 225 => 246 | 224 => 247 | 267 => 248 | 266 => 250 | 314 => 251 | n => n, fun | 9 => 9 | 4 => 4 | 59 => 193 | 3 => 3 | 5 => 5 | 46 => 220 | 146 => 234 | 51 => 227 | n => n, fun | 1 => 2 | n => n⟩
theorem Tryz.laysM145 : Go.Proofs.LaysM.n145 zV Tryz.laysM145_ren := {
 mixed := by kernel_rfl
 f145 := Tryz.func184.trans (congrArg some zT)
 f217 := Tryz.func245.trans (congrArg some zT)
 f219 := Tryz.func240.trans (congrArg some zT)
 f220 := Tryz.func222.trans (congrArg some zT)
 f224 := Tryz.func247.trans (congrArg some zT)
 f225 := Tryz.func246.trans (congrArg some zT)
 f266 := Tryz.func250.trans (congrArg some zT)
 f267 := Tryz.func248.trans (congrArg some zT)
 f314 := Tryz.func251.trans (congrArg some zT)
 t3 := Tryz.underlying3
 a3 := Tryz.isAgg3
 z3 := Tryz.sizeOf3
 v3 := Tryz.zeroValue3
 t4 := Tryz.underlying4
 a4 := Tryz.isAgg4
 z4 := Tryz.sizeOf4
 v4 := Tryz.zeroValue4
 t5 := Tryz.underlying5
 a5 := Tryz.isAgg5
 z5 := Tryz.sizeOf5
 v5 := Tryz.zeroValue5
 t9 := Tryz.underlying9
 a9 := Tryz.isAgg9
 z9 := Tryz.sizeOf9
 v9 := Tryz.zeroValue9
 t46 := Tryz.underlying220
 a46 := Tryz.isAgg220
 z46 := Tryz.sizeOf220
 v46 := Tryz.zeroValue220
 t51 := Tryz.underlying227
 a51 := Tryz.isAgg227
 z51 := Tryz.sizeOf227
 v51 := Tryz.zeroValue227
 t59 := Tryz.underlying193
 a59 := Tryz.isAgg193
 z59 := Tryz.sizeOf193
 v59 := Tryz.zeroValue193
 t146 := Tryz.underlying234
 a146 := Tryz.isAgg234
 z146 := Tryz.sizeOf234
 v146 := Tryz.zeroValue234
 g1 := by kernel_rfl
 i3 := by kernel_rfl
 i4 := by kernel_rfl
 i5 := by kernel_rfl
 i9 := by kernel_rfl
 i46 := by kernel_rfl
 i51 := by kernel_rfl
 i59 := by kernel_rfl
 i146 := by kernel_rfl
 m1 := by kernel_rfl
 s1_3 := fun w h => Go.Proofs.cell_of_shapedOpen_int (zero := #[.int .i64 0]) (t := 3) h (of_decide_eq_true zT) zT rfl zT zT Tryz.underlying3 }
open Go.RowKit Go.Lib in
theorem Tryz.strings_Cut_shaped (s sep : ByteArray) (w : World) (h : w.ShapedOpen zV) (hs : s.size < 4294967281) :
  Calls zV 184 #[.string s, .string sep] w fun e w' => e = .returned (.tuple #[.string ⟨(Lib.cut s.data.toList sep.data.toList).1.toArray⟩, .string ⟨(Lib.cut s.data.toList sep.data.toList).2.1.toArray⟩, .bool (Lib.cut s.data.toList sep.data.toList).2.2]) ∧ ∃ n, w' = w.drewN n := Any.strings_Cut_shaped Tryz.laysM145 s sep w h hs
def Tryz.lays230_ren : Go.Shelf.Ren := ⟨fun | 230 => 81 | 197 => 138 | 118 => 139 | 165 => 140 | 166 => 141 | 168 => 142 | 270 => 143 | 167 => 144 | 169 => 145 | 260 => 200 | 240 => 201 | 241 => 202 | 242 => 203 | 276 => 232 | 277 => 233 | 278 => 234 | n => n, fun | 107 => 96 | 9 => 9 | 72 => 137 | 0 => 0 | 4 => 4 | 3 => 3 | 21 => 21 | 105 => 138 | 76 => 144 | 5 => 5 | 75 => 143 | 70 => 134 | 20 => 20 | 37 => 135 | 127 => 203 | 119 => 219 | 46 => 220 | 139 => 223 | 138 => 222 | 164 => 224 | 51 => 227 | 80 => 149 | n => n, fun | 3 => 0 | 4 => 1 | n => n⟩
theorem Tryz.lays230 : Go.Proofs.Lays.n230 zV Tryz.lays230_ren := {
 mixed := by kernel_rfl
 f118 := Tryz.func139.trans (congrArg some zT)
 f165 := Tryz.func140.trans (congrArg some zT)
 f166 := Tryz.func141.trans (congrArg some zT)
 f167 := Tryz.func144.trans (congrArg some zT)
 f168 := Tryz.func142.trans (congrArg some zT)
 f169 := Tryz.func145.trans (congrArg some zT)
 f197 := Tryz.func138.trans (congrArg some zT)
 f230 := Tryz.func81.trans (congrArg some zT)
 f240 := Tryz.func201.trans (congrArg some zT)
 f241 := Tryz.func202.trans (congrArg some zT)
 f242 := Tryz.func203.trans (congrArg some zT)
 f260 := Tryz.func200.trans (congrArg some zT)
 f270 := Tryz.func143.trans (congrArg some zT)
 f276 := Tryz.func232.trans (congrArg some zT)
 f277 := Tryz.func233.trans (congrArg some zT)
 f278 := Tryz.func234.trans (congrArg some zT)
 t0 := Tryz.underlying0
 a0 := Tryz.isAgg0
 z0 := Tryz.sizeOf0
 v0 := Tryz.zeroValue0
 t3 := Tryz.underlying3
 a3 := Tryz.isAgg3
 z3 := Tryz.sizeOf3
 v3 := Tryz.zeroValue3
 t4 := Tryz.underlying4
 a4 := Tryz.isAgg4
 z4 := Tryz.sizeOf4
 v4 := Tryz.zeroValue4
 t5 := Tryz.underlying5
 a5 := Tryz.isAgg5
 z5 := Tryz.sizeOf5
 v5 := Tryz.zeroValue5
 t9 := Tryz.underlying9
 a9 := Tryz.isAgg9
 z9 := Tryz.sizeOf9
 v9 := Tryz.zeroValue9
 t20 := Tryz.underlying20
 a20 := Tryz.isAgg20
 z20 := Tryz.sizeOf20
 v20 := Tryz.zeroValue20
 t21 := Tryz.underlying21
 a21 := Tryz.isAgg21
 z21 := Tryz.sizeOf21
 v21 := Tryz.zeroValue21
 t37 := Tryz.underlying135
 a37 := Tryz.isAgg135
 z37 := Tryz.sizeOf135
 v37 := Tryz.zeroValue135
 t46 := Tryz.underlying220
 a46 := Tryz.isAgg220
 z46 := Tryz.sizeOf220
 v46 := Tryz.zeroValue220
 t51 := Tryz.underlying227
 a51 := Tryz.isAgg227
 z51 := Tryz.sizeOf227
 v51 := Tryz.zeroValue227
 t70 := Tryz.underlying134
 a70 := Tryz.isAgg134
 z70 := Tryz.sizeOf134
 v70 := Tryz.zeroValue134
 t72 := Tryz.underlying137
 a72 := Tryz.isAgg137
 z72 := Tryz.sizeOf137
 v72 := Tryz.zeroValue137
 t75 := Tryz.underlying143
 a75 := Tryz.isAgg143
 z75 := Tryz.sizeOf143
 v75 := Tryz.zeroValue143
 t76 := Tryz.underlying144
 a76 := Tryz.isAgg144
 z76 := Tryz.sizeOf144
 v76 := Tryz.zeroValue144
 t105 := Tryz.underlying138
 a105 := Tryz.isAgg138
 z105 := Tryz.sizeOf138
 v105 := Tryz.zeroValue138
 t107 := Tryz.underlying96
 a107 := Tryz.isAgg96
 z107 := Tryz.sizeOf96
 v107 := Tryz.zeroValue96
 t119 := Tryz.underlying219
 a119 := Tryz.isAgg219
 z119 := Tryz.sizeOf219
 t127 := Tryz.underlying203
 a127 := Tryz.isAgg203
 z127 := Tryz.sizeOf203
 v127 := Tryz.zeroValue203
 t138 := Tryz.underlying222
 a138 := Tryz.isAgg222
 z138 := Tryz.sizeOf222
 v138 := Tryz.zeroValue222
 t139 := Tryz.underlying223
 a139 := Tryz.isAgg223
 z139 := Tryz.sizeOf223
 v139 := Tryz.zeroValue223
 t164 := Tryz.underlying224
 a164 := Tryz.isAgg224
 z164 := Tryz.sizeOf224
 v164 := Tryz.zeroValue224
 g3 := by kernel_rfl
 g4 := by kernel_rfl }
theorem Tryz.Builder_Extra_230 : Builder.Extra zV Tryz.lays230_ren := {
 sizeBuilder := by kernel_rfl
 liesBuilder := by kernel_rfl
 t5 := Tryz.underlying5
 a5 := Tryz.isAgg5
 z5 := Tryz.sizeOf5
 v5 := Tryz.zeroValue5
 infoByte := by kernel_rfl
 cellsByte := by kernel_rfl
 sizeByte := by kernel_rfl
 neB5 := by decide }
open Go.RowKit Go.Lib in
theorem Tryz.strings_Map_grows (g : Nat) (lb : Array Value) (eg : ∀ args w, (callFunc g args).run zV w = .ok (.enter g args) w) (f : Int → Int) (s : ByteArray) (w : World) (hs : s.size < 35184372088832) (hf : MapGrows zV g lb f w) (hnn : ∀ x : Nat, x ≤ 1114111 → -2147483648 ≤ f x ∧ f x ≤ 2147483647) (hT : Lib.Utf8Tabs 0 1 w) :
  Calls zV 81 #[.func (.func g) #[] lb, .string s] w fun e w' => e = .returned (.string ⟨(Lib.mapD f s.data.toList).toArray⟩) ∧ Below w.heap.size w w' := Any.strings_Map_grows Tryz.lays230 Tryz.Builder_Extra_230 g lb eg f s w hs hf hnn hT
def Tryz.laysValid_ren : Go.Shelf.Ren := ⟨fun | 196 => 223 | 259 => 241 | n => n, fun | 9 => 9 | 4 => 4 | 3 => 3 | 5 => 5 | 12 => 12 | 119 => 219 | 0 => 0 | 46 => 220 | 139 => 223 | 138 => 222 | 53 => 233 | n => n, fun | 3 => 0 | 4 => 1 | n => n⟩
theorem Tryz.laysValid : Go.Proofs.Lays.n196 zV Tryz.laysValid_ren := {
 mixed := by kernel_rfl
 f196 := Tryz.func223.trans (congrArg some zT)
 f259 := Tryz.func241.trans (congrArg some zT)
 t0 := Tryz.underlying0
 a0 := Tryz.isAgg0
 z0 := Tryz.sizeOf0
 v0 := Tryz.zeroValue0
 t3 := Tryz.underlying3
 a3 := Tryz.isAgg3
 z3 := Tryz.sizeOf3
 v3 := Tryz.zeroValue3
 t4 := Tryz.underlying4
 a4 := Tryz.isAgg4
 z4 := Tryz.sizeOf4
 v4 := Tryz.zeroValue4
 t5 := Tryz.underlying5
 a5 := Tryz.isAgg5
 z5 := Tryz.sizeOf5
 v5 := Tryz.zeroValue5
 t9 := Tryz.underlying9
 a9 := Tryz.isAgg9
 z9 := Tryz.sizeOf9
 v9 := Tryz.zeroValue9
 t12 := Tryz.underlying12
 a12 := Tryz.isAgg12
 z12 := Tryz.sizeOf12
 v12 := Tryz.zeroValue12
 t46 := Tryz.underlying220
 a46 := Tryz.isAgg220
 z46 := Tryz.sizeOf220
 v46 := Tryz.zeroValue220
 t53 := Tryz.underlying233
 a53 := Tryz.isAgg233
 z53 := Tryz.sizeOf233
 v53 := Tryz.zeroValue233
 t119 := Tryz.underlying219
 a119 := Tryz.isAgg219
 z119 := Tryz.sizeOf219
 t138 := Tryz.underlying222
 a138 := Tryz.isAgg222
 z138 := Tryz.sizeOf222
 v138 := Tryz.zeroValue222
 t139 := Tryz.underlying223
 a139 := Tryz.isAgg223
 z139 := Tryz.sizeOf223
 v139 := Tryz.zeroValue223
 g3 := by kernel_rfl
 g4 := by kernel_rfl }
open Go.RowKit in
theorem Tryz.utf8_ValidString (s : ByteArray) (w : World) (hs : s.size ≤ 9223372036854775807) (hT : Lib.Utf8Tabs 0 1 w) :
  Calls zV 223 #[.string s] w fun e w' => e = .returned (.bool (Lib.validD s.data.toList)) ∧ Below w.heap.size w w' := Any.utf8_ValidString Tryz.laysValid s w hs hT
end Go.Proofs
namespace Go.Proofs.YtjgeadoncanheaaGreatDoor
open Go.RowKit
open Go.Proofs.Qw
open _root_.Go.Lib renaming hid → zA
open _root_.Go.Proofs.Tryz renaming prog → zV
theorem zFh (c : Int) (w : World) :
  Calls zV 215 #[.int .i32 c] w fun e w' => e = .returned (.int .i64 (zAd c)) ∧ w' = w := by
 go_enter Tryz.func215, Tryz.ntmps215;go_wp2_with (go_at_call 238; refine (Tryz.utf8_ValidRune c w).mono ?_; rintro e w' ⟨rfl, rfl⟩)
 all_goals
  go_ret;refine ⟨?_, rfl⟩;refine congrArg Ending.returned (zBo ?_);simp only [Bool.not_eq_true', Bool.not_eq_false', beq_iff_eq, beq_eq_false_iff_ne] at *;unfold zAd
  (repeat' split) <;> first | rfl | omega | simp_all
theorem zEn (c : Int) (w : World) :
  Calls zV 206 #[.int .i32 c] w fun e w' => e = .returned (.bool (mayR c)) ∧ w' = w := by
 go_enter Tryz.func206, Tryz.ntmps206;go_wp2_with (go_at_call 215; refine (zFh c w).mono ?_; rintro e w' ⟨rfl, rfl⟩);go_ret;exact ⟨rfl, rfl⟩
def EnvT (w : World) : Prop := Env w ∧ Lib.Utf8Tabs 0 1 w
theorem EnvT.below {w w' : World} (h : EnvT w) (hb : Below w.heap.size w w') : EnvT w' := ⟨h.1.below hb, Utf8Tabs_below h.2 hb⟩
theorem zGV {s : ByteArray} {f pos : Nat} (h : pos < s.size) : xH s (f + 1) pos = ((Utf8.decode s pos).1 : Int) :: xH s f (pos + (Utf8.decode s pos).2) := by rw [xH, if_pos h]
theorem zHD {s : ByteArray} {f pos : Nat} (h : ¬ pos < s.size) : xH s f pos = [] := by
 cases f with
 | zero => rfl
 | succ f => rw [xH, if_neg h]
theorem zIW (s : ByteArray) (pos : Nat) (h : pos < s.size) : 0 < (Utf8.decode s pos).2 := by
 by_cases ha : (s[pos]'h).toNat < 128
 ·rw [decode_ascii s pos h ha]; exact Nat.le_refl _
 ·exact (decode_high s pos h qC).2
theorem zIX (s : ByteArray) (w : World) (he : EnvT w) (hs : s.size ≤ 1000000) :
  Calls zV 186 #[.string s] w fun e w' => e = .returned (.bool (zAF s)) ∧ Below w.heap.size w w' := by
 go_enter Tryz.func186, Tryz.ntmps186;go_wp2_with fail;have HV : Hid (∀ b, (yW s).all mayR = b → zAF s = (b && (decide (s.size ≤ 200) && Lib.validD s.data.toList))) := zA (fun b h => by rw [← h]; rfl);go_loopw [] (fun wr => ∃ (pos fuel : Nat), wr.heap[w.heap.size]? = some (.stringIter s pos) ∧ Below w.heap.size w wr ∧ (yW s).all mayR = (xH s fuel pos).all mayR ∧ s.size ≤ pos + fuel) (fun wr => s.size - wr.iterPos w.heap.size)
 case atStart =>
  refine ⟨0, s.size, ?_, (Below.refl _ w).alloc (Nat.le_refl _) _, rfl, by omega⟩;exact World.iter_heap w s 0
 case round =>
  obtain ⟨pos, fuel, hit, hbw, hacc, hfu⟩ := hrel;have hsz : w.heap.size < wr.heap.size := (Array.getElem?_eq_some_iff.1 hit).1;have HA := zA hacc;clear hacc
  by_cases hp : pos < s.size
  ·have hnx : ∀ ty, (Instr.next (.pointer (some ⟨w.heap.size, 0, none⟩)) true ty).run zV wr = _ := fun ty => Lib.run_next_any_at wr w.heap.size s pos ty hit hp
   have hwd := zIW s pos hp;have hit2 := Lib.iterAt_heap wr w.heap.size s pos (pos + (Utf8.decode s pos).2) hit;have hbw2 := Lib.below_iterAt hbw (k := w.heap.size) qC s (pos + (Utf8.decode s pos).2);obtain ⟨f, rfl⟩ : ∃ f, fuel = f + 1 := ⟨fuel - 1, by omega⟩;obtain ⟨r, hr⟩ : ∃ r, mayR ((Utf8.decode s pos).1 : Int) = r := ⟨_, rfl⟩;have HR : Hid ((yW s).all mayR = (r && (xH s f (pos + (Utf8.decode s pos).2)).all mayR)) := zA (by rw [HA.out, zGV hp, List.all_cons, hr]);have HC : Hid (∀ W, Calls zV 206 #[.int .i32 (Utf8.decode s pos).1] W fun e w' => e = .returned (.bool r) ∧ w' = W) := zA (fun W => hr ▸ zEn _ W);clear hr;go_wp2_with (go_at_call 206; refine (HC.out _).mono ?_; rintro e W1 ⟨rfl, rfl⟩; cases r)
   ·go_ret
    exact ⟨by rw [HV.out _ HR.out]; rfl, hbw2⟩
   ·go_roundw
    case rel => exact ⟨pos + (Utf8.decode s pos).2, f, hit2, hbw2, HR.out, by omega⟩
    case measure =>
     have e1 : wr.iterPos w.heap.size = pos := by unfold World.iterPos; rw [hit]
     have e2 : (wr.iterAt w.heap.size s (pos + (Utf8.decode s pos).2)).iterPos w.heap.size = pos + (Utf8.decode s pos).2 := by unfold World.iterPos; rw [hit2]
     rw [e1, e2]
     omega
  ·have hnx : ∀ ty, (Instr.next (.pointer (some ⟨w.heap.size, 0, none⟩)) true ty).run zV wr = _ := fun ty => Lib.run_next_end_at wr w.heap.size s pos ty hit hp
   have HT : Hid (zAF s = (true && (decide (s.size ≤ 200) && Lib.validD s.data.toList))) := zA (HV.out _ (HA.out.trans (by rw [zHD hp]; rfl)));have heW := he.below hbw;go_wp2_with (go_at_call 223; refine (Tryz.utf8_ValidString s _ qC heW.2).mono ?_; rintro e W1 ⟨rfl, hb1⟩)
   ·go_ret
    refine ⟨?_, hbw.trans (hb1.mono hbw.size)⟩;rw [HT.out, decide_eq_true qC]
    rfl
   ·go_ret
    refine ⟨?_, hbw⟩;rw [HT.out, decide_eq_false qC]
    rfl
theorem zKd (c : Int) (w : World) (h1 : 0 ≤ c) (h2 : c ≤ 1114111) :
  Calls zV 185 #[.int .i32 c] w fun e w' => e = .returned (.int .i32 (lowR c)) ∧ w' = w := by
 unfold lowR;go_enter Tryz.func185, Tryz.ntmps185;go_wp2_with fail
 all_goals
  go_ret;refine ⟨?_, rfl⟩;refine congrArg Ending.returned (zBo ?_)
 all_goals first
  | rfl
  | (rw [if_pos ⟨by assumption, by assumption⟩]; rfl)
  | (rw [if_neg qC]; rfl)
theorem zCX (s : ByteArray) (h : 0 < s.size) : s.data.toList.head? = some s[0] := by
 rw [List.head?_eq_getElem?, Array.getElem?_toList, Array.getElem?_eq_getElem h]; rfl
theorem zCW (s : ByteArray) (h : 0 < s.size) : s.data.toList.getLast? = some s[s.size - 1] := by
 rw [List.getLast?_eq_getElem?, Array.length_toList, Array.getElem?_toList, Array.getElem?_eq_getElem (by show s.size - 1 < s.size; omega)]; rfl
theorem zFQ {o : Option UInt8} {b : UInt8} (h : o = some b) : decide (o ≠ some 32) = ((b.toNat : Int) != 32) := by
 subst h
 by_cases e : b = 32
 ·subst e; rfl
 ·have e2 : ¬ (b.toNat : Int) = 32 := fun h => e (UInt8.toNat_inj.1 (by simpa using Int.ofNat.inj h))
  simp [e, e2]
theorem zIz (w : World) : MapGrows zV 185 #[] lowR w := fun W x hx _ => (zKd (x : Int) W qC qC).mono fun _ _ ⟨h1, h2⟩ => ⟨h1, h2 ▸ Below.refl _ _⟩
theorem zCO : ∀ x : Nat, x ≤ 1114111 → -2147483648 ≤ lowR x ∧ lowR x ≤ 2147483647 := by
 intro x h;unfold lowR
 split <;> omega
theorem zCL (s : ByteArray) (w : World) (he : EnvT w) (hs : s.size ≤ 1000000) :
  Calls zV 126 #[.string s] w fun e w' => e = .returned (.bool (xR s.data.toList)) ∧ Below w.heap.size w w' := by
 obtain ⟨js, hjs⟩ : ∃ x, Lib.mapD lowR (Lib.cut s.data.toList [58]).1 = x := ⟨_, rfl⟩;obtain ⟨cut, hcut⟩ : ∃ x, Lib.cut s.data.toList [58] = x := ⟨_, rfl⟩;obtain ⟨vb, hvb⟩ : ∃ x, zAF s = x := ⟨_, rfl⟩
 have HT : Hid (xR s.data.toList = (vb && (decide (s.data.toList ≠ []) && (decide (s.data.toList.head? ≠ some 32) && (decide (s.data.toList.getLast? ≠ some 32) && !(js == javascript)))))) := zA (by
  unfold xR zDm;rw [hjs, ← hvb])
 have hcl : cut.1.length ≤ s.size := by
  have hl : s.data.toList.length = s.size := Array.length_toList;rw [← hcut];unfold Lib.cut
  split
  ·simp; omega
  ·simp
 rw [hcut] at hjs;have HC1 : Hid (∀ W, EnvT W → Calls zV 184 #[.string s, .string ⟨#[58]⟩] W fun e w' => e = .returned (.tuple #[.string ⟨cut.1.toArray⟩, .string ⟨cut.2.1.toArray⟩, .bool cut.2.2]) ∧ Below W.heap.size W w') := zA fun W hW => (Tryz.strings_Cut_shaped s ⟨#[58]⟩ W hW.1 qC).mono fun _ _ ⟨h1, n, h2⟩ => ⟨by rw [h1, ← hcut], h2 ▸ below_drewNm W n⟩
 have HC2 : Hid (∀ W, EnvT W → Calls zV 81 #[.func (.func 185) #[] #[], .string ⟨cut.1.toArray⟩] W fun e w' => e = .returned (.string ⟨js.toArray⟩) ∧ Below W.heap.size W w') := zA fun W hW => by
  have := Tryz.strings_Map_grows 185 #[] (enters_of Tryz.func185 zT rfl) lowR ⟨cut.1.toArray⟩ W (by show cut.1.toArray.size < _; simp; omega) (zIz W) zCO hW.2;rw [← hjs];exact this
 have HC3 : Hid (∀ W, EnvT W → Calls zV 186 #[.string s] W fun e w' => e = .returned (.bool vb) ∧ Below W.heap.size W w') := zA fun W hW => hvb ▸ zIX s W hW hs;clear hjs hcut hvb;go_enter Tryz.func126, Tryz.ntmps126;go_wp2_with (go_at_call 184; refine (HC1.out _ he).mono ?_; rintro e w1 ⟨rfl, hb1⟩; have he1 := he.below hb1);go_wp2_with (go_at_call 81; refine (HC2.out _ he1).mono ?_; rintro e w2 ⟨rfl, hb2⟩; have he2 := he1.below hb2);have hb12 := hb1.trans (hb2.mono hb1.size);clear HC1 HC2 hb1 hb2 he he1;rcases Nat.eq_zero_or_pos s.size with hz | hz
 ·have hnil : s.data.toList = [] := List.length_eq_zero_iff.1 (by rw [Array.length_toList]; exact hz)
  have HF : Hid (xR s.data.toList = false) := zA (by rw [HT.out, hnil]; simp);have hne2 : s.toList.isEmpty = true := by rw [zCR, hnil]; rfl
  have hcon : s.size - 1 < s.size → False := by omega
  clear HT hnil;go_wp2_with (go_at_call 186; refine (HC3.out _ he2).mono ?_; rintro e w3 ⟨rfl, hb3⟩; cases vb)
  all_goals
   go_ret;refine ⟨?_, hb12.trans (hb3.mono hb12.size)⟩;rw [HF.out];refine congrArg Ending.returned (congrArg Value.bool ?_)
  all_goals simp_all
 ·have hne : s.data.toList ≠ [] := by
   intro e;have h2 : s.data.toList.length = s.size := Array.length_toList;rw [e, List.length_nil] at h2
   omega
  have h0 := zFQ (zCX s hz);have h1 := zFQ (zCW s hz)
  have HN : Hid (xR s.data.toList = (vb && (((s[0].toNat : Int) != 32) && (((s[s.size - 1].toNat : Int) != 32) && !(js == javascript))))) := zA (by
   rw [HT.out, h0, h1, decide_eq_true hne, Bool.true_and])
  have hne2 : s.toList.isEmpty = false := by rw [zCR]; simpa using hne
  clear h0 h1 HT hne;unfold javascript at HN;go_wp2_with (go_at_call 186; refine (HC3.out _ he2).mono ?_; rintro e w3 ⟨rfl, hb3⟩; cases vb)
  all_goals
   go_ret;refine ⟨?_, hb12.trans (hb3.mono hb12.size)⟩;rw [HN.out]
  all_goals refine congrArg Ending.returned (congrArg Value.bool ?_)
  all_goals first | (simp_all; done) | (rw [Bool.true_and, Bool.and_assoc]) | (simp_all [Bool.and_assoc])
end Go.Proofs.YtjgeadoncanheaaGreatDoor
