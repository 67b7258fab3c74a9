/- Data with depth in memory: what every walk of documents stands on. -/
import Derived.Test.YtjpgffihafknlaaGreatDoorRows
import Derived.WalkKit
import Derived.WalkSpells
import Derived.WalkLawsBesides
import Derived.ChangeAgain
import Derived.Lib.Hide
import Derived.Laws.EntriesVeiled
import Derived.RangeFuncNested
import Derived.RangeFuncBound
import Derived.RangeFuncCalls
import Derived.RangeFuncLeaves
import Derived.Shelf.Abstract
import Derived.Shelf.RegionOpen
import Derived.OwnWalkIn
import Derived.TacticsInMore
import Derived.LoopNIn
import Derived.LoopIn
import Derived.RangeFuncBox
import Derived.Handy
import Derived.Deep.Draws
import Derived.BigQuiet
import Derived.Deep.QuietTactic
import Derived.Deep.AppendSrc
import Derived.Lib.Small
import Derived.Lib.ValidU
import Derived.Lib.MapU
import Derived.Lib.IndexMore
import Derived.Deep.AppendLies
import Derived.Lib.AppendZerosOnto
import Derived.Lib.Overlaps
import Derived.Sort.QuietTacIn
import Derived.Deep.RegionHeld3
import Derived.Test.YtjpgffihafknlaaGreatDoorShelf
import Derived.Lib.OthersKept
import Derived.Deep.DrawnRows
import Derived.Laws.Cover4
import Derived.Lib.MapLaws
import Derived.IntWalk
set_option linter.unusedVariables false
set_option linter.unusedSimpArgs false
namespace Go.Proofs.Qw
theorem qA.{u} {α : Type u} (l : List α) (i : Nat) : l.toArray[i]? = l[i]? := by simp
theorem qZ.{u} {α : Type u} (a : α) (l : List α) : (a :: l)[0]? = some a := rfl
theorem qS.{u} {α : Type u} (a : α) (l : List α) (i : Nat) : (a :: l)[i + 1]? = l[i]? := by simp
theorem qI.{u} {α : Type u} (l : List α) (i : Nat) (a : α) : l.toArray.setIfInBounds i a = (l.set i a).toArray := by simp
theorem qX.{u} {α : Type u} (a b : α) (l : List α) : (a :: l).set 0 b = b :: l := rfl
theorem qY.{u} {α : Type u} (a b : α) (l : List α) (i : Nat) : (a :: l).set (i + 1) b = a :: l.set i b := rfl
end Go.Proofs.Qw
namespace Go.Proofs.YtjpgffihafknlaaGreatDoor
open Go.RowKit
def Env (w : World) : Prop := w.ShapedOpen Tryz.prog
theorem Env.below {w w' : World} (h : Env w) (hb : Below w.heap.size w w') : Env w' :=
 World.ShapedOpen.keptBut (may := fun _ => False) h (hb.frame _) (fun _ h => h.elim)
theorem below_from {a b c : World} (h1 : Below a.heap.size a b) (h2 : Below b.heap.size b c) : Below a.heap.size a c := h1.trans (h2.mono h1.size)
theorem cell_new (w : World) (a : Array Value) (t : TypeId) (k : Nat) : (w.alloc (.cells a t)).cell? ⟨w.heap.size, k, none⟩ = a[k]? := by
 rw [World.cell?, World.alloc_heap_new]; rfl
theorem getOf {α : Type} (l : List α) (k : Nat) (h : k < l.length) : ∃ x, l[k]? = some x ∧ l.drop k = x :: l.drop (k + 1) :=
 ⟨l[k], by simp [h], by simp⟩
theorem toListLoop (b : ByteArray) (n : Nat) : ∀ (i : Nat) (r : List UInt8), b.size - i = n → ByteArray.toList.loop b i r = r.reverse ++ b.data.toList.drop i := by
 induction n with
 | zero =>
  intro i r h
  unfold ByteArray.toList.loop
  rw [if_neg (by omega), List.drop_eq_nil_of_le (by have : b.size = b.data.size := rfl; rw [Array.length_toList]; omega), List.append_nil]
 | succ n ih =>
  intro i r h
  have hi : i < b.data.size := by have : b.size = b.data.size := rfl; omega
  unfold ByteArray.toList.loop
  rw [if_pos (by omega), ih _ _ (by omega)]
  have : b.data.toList.drop i = b.get! i :: b.data.toList.drop (i+1) := by
   rw [List.drop_eq_getElem_cons (by simpa using hi)]
   congr 1
   exact (getElem!_pos b.data i hi).symm
  rw [this, List.reverse_cons, List.append_assoc, List.singleton_append]
theorem toList_eq (b : ByteArray) : b.toList = b.data.toList := by
 unfold ByteArray.toList; rw [toListLoop b _ 0 [] rfl]; rfl
theorem eq_of_beq {b : ByteArray} {l : List UInt8} (h : (b.toList == l) = true) : b.data.toList = l := by rw [← toList_eq]; exact beq_iff_eq.1 h
theorem ne_of_beq {b : ByteArray} {l : List UInt8} (h : (b.toList == l) = false) : b.data.toList ≠ l := by rw [← toList_eq]; exact beq_eq_false_iff_ne.1 h
theorem nil_of_empty {b : ByteArray} (h : b.toList.isEmpty = true) : b.data.toList = [] := by rw [← toList_eq]; exact List.isEmpty_iff.1 h
theorem ne_of_empty {b : ByteArray} (h : b.toList.isEmpty = false) : b.data.toList ≠ [] := by rw [← toList_eq]; intro e; rw [e] at h; cases h
theorem int_eq {k : IntKind} {a b : Int} (h : a = b) : Value.int k a = Value.int k b := by rw [h]
theorem grown_of_below {X Y : World} (h : Below X.heap.size X Y) : X.grownBy Y none := ⟨h.os, h.tape, h.output, h.size, fun k hk _ => h.block k hk⟩
theorem abides_below {β : Type} {B : Nat} {J : β → World → Prop} (h : AbidesFrom B J) {s : β} {X Y : World} (hs : J s X) (hb : Below X.heap.size X Y) : J s Y := h s X Y none hs (grown_of_below hb) (by simp)
theorem keeps_below {X Y : World} (hb : Below X.heap.size X Y) : KeepsOthers X Y := .of_grownBy (grown_of_below hb) (by simp)
theorem below_or {w w' : World} (h : w' = w ∨ w' = w.drew) : Below w.heap.size w w' := by
 rcases h with rfl | rfl
 ·exact Below.refl _ _
 ·exact (Below.refl _ _).drew
def RowAt (w : World) (B o : Nat) (l : List Value) : Prop := ∀ k v, l[k]? = some v → w.cell? ⟨B, o + k, none⟩ = some v ∧ w.frozen? ⟨B, o + k, none⟩ = false
theorem setCell_same {w : World} {B o : Nat} {u v : Value} (h : w.cell? ⟨B, o, none⟩ = some u) : (w.setCell ⟨B, o, none⟩ v).cell? ⟨B, o, none⟩ = some v :=
 World.cell?_setCell_same' _ _ _ (by rw [h]; rfl)
theorem setCell_off {w : World} {B o o' : Nat} {v : Value} (h : o ≠ o') : (w.setCell ⟨B, o, none⟩ v).cell? ⟨B, o', none⟩ = w.cell? ⟨B, o', none⟩ := by
 unfold World.cell? World.setCell
 simp only [Array.getElem?_modify]
 cases w.heap[B]? with
 | none => simp
 | some x => cases x <;> simp [h]
theorem setCell_block {w : World} {B B' o o' : Nat} {v : Value} (h : B ≠ B') : (w.setCell ⟨B, o, none⟩ v).cell? ⟨B', o', none⟩ = w.cell? ⟨B', o', none⟩ :=
 World.cell?_of_block (Below.heap_setCell _ _ _ _ (by simp; omega))
theorem RowAt.set {w : World} {B o : Nat} {l : List Value} (h : RowAt w B o l) {i : Nat} (hi : i < l.length) (v : Value) : RowAt (w.setCell ⟨B, o + i, none⟩ v) B o (l.set i v) := by
 intro k u hk
 rw [World.frozen?_setCell]
 by_cases e : i = k
 ·subst e
  rw [List.getElem?_set_self hi] at hk
  cases hk
  exact ⟨setCell_same (h i _ (List.getElem?_eq_getElem hi)).1, (h i _ (List.getElem?_eq_getElem hi)).2⟩
 ·rw [List.getElem?_set_ne e] at hk
  rw [setCell_off (by omega)]
  exact h k u hk
theorem RowAt.below {w w' : World} {B o n : Nat} {l : List Value} (h : RowAt w B o l) (hb : Below n w w') (hB : B < n) : RowAt w' B o l := fun k v hk =>
 ⟨(hb.cell (p := ⟨B, o + k, none⟩) hB).trans (h k v hk).1, (hb.frozen (p := ⟨B, o + k, none⟩) hB).trans (h k v hk).2⟩
def bv (l : List UInt8) : List Value := l.map fun b => .int .u8 (b.toNat : Int)
theorem bv_get {l : List UInt8} {k : Nat} {b : UInt8} (h : l[k]? = some b) : (bv l)[k]? = some (.int .u8 (b.toNat : Int)) := by simp [bv, h]
theorem bv_set (l : List UInt8) (k : Nat) (b : UInt8) : (bv l).set k (.int .u8 (b.toNat : Int)) = bv (l.set k b) := by simp [bv, List.map_set]
theorem bv_length (l : List UInt8) : (bv l).length = l.length := by simp [bv]
theorem string_of {w : World} {B c : Nat} {l : List UInt8} (h : RowAt w B 0 (bv l)) : (convert 179 9 (.slice (some ⟨B, 0, none⟩) l.length c)).run Tryz.prog w = .ok (.string ⟨l.toArray⟩) w :=
 run_convert_bytes_back w 179 9 5 ⟨B, 0, none⟩ c l Tryz.underlying179 Tryz.underlying5 Tryz.underlying9 (fun j hj => by
  have := (h j _ (bv_get (List.getElem?_eq_getElem hj))).1
  rw [Nat.zero_add] at this
  rw [show (⟨B, 0, none⟩ : Addr).add j = ⟨B, j, none⟩ by unfold Addr.add; split <;> simp_all]
  exact this)
theorem bytes_of (w : World) (s : ByteArray) : ∃ (c : Nat) (w1 : World), (convert 9 179 (.string s)).run Tryz.prog w = .ok (.slice (some ⟨w.heap.size, 0, none⟩) s.size c) w1 ∧
  Below w.heap.size w w1 ∧ w.heap.size < w1.heap.size ∧ RowAt w1 w.heap.size 0 (bv s.data.toList) ∧ s.size ≤ c := by
 refine ⟨_, _, run_bytes_of_string w 9 179 5 s Tryz.underlying9 Tryz.underlying179 Tryz.underlying5, ?_, ?_, ?_, ?_⟩
 ·exact ((Below.refl _ w).drew).alloc (Nat.le_refl _) _
 ·simp
 ·intro k v hk
  have hk' : k < s.data.size := by
   have := (List.getElem?_eq_some_iff.1 hk).1
   simpa [bv] using this
  have hv : v = .int .u8 (s.data[k].toNat : Int) := by
   simp only [bv, List.getElem?_map, Option.map_eq_some_iff] at hk
   obtain ⟨a, h1, h2⟩ := hk
   rw [Array.getElem?_toList, Array.getElem?_eq_getElem hk'] at h1
   cases h1
   exact h2.symm
  subst hv
  rw [Nat.zero_add]
  constructor
  ·show (World.alloc w.drew _).cell? ⟨w.drew.heap.size, k, none⟩ = _
   rw [World.cell?_alloc_mark, bytesRow_at s _ k hk']
  ·unfold World.frozen?
   show (match (World.alloc w.drew _).heap[w.drew.heap.size]? with | some (.cells _ _ (lo, hi)) => decide (lo ≤ k) && decide (k < hi) | _ => false) = false
   rw [World.alloc_heap_new]
   have : s.data.size ≤ (bytesRow s (grownCap w s.size 0 5)).size := by
    unfold bytesRow; rw [Array.size_append, Array.size_map]; omega
   have h2 : decide ((bytesRow s (grownCap w s.size 0 5)).size ≤ k) = false := by simp; omega
   show (decide ((bytesRow s (grownCap w s.size 0 5)).size ≤ k) && _) = false
   rw [h2]; rfl
 ·exact grownCap_ge _ _ _ _
structure Kp (n₀ base : Nat) (W W' : World) : Prop where
 below : Below n₀ W W'
 cells : ∀ k o, base ≤ k → W.heap[k]? = some o → o.isCells = true → W'.heap[k]? = some o
theorem Kp.t {n₀ base : Nat} {A B C : World} (h : Kp n₀ base A B) (k : Kp n₀ base B C) : Kp n₀ base A C := ⟨h.below.trans k.below, fun i o hi ho hc => k.cells i o hi (h.cells i o hi ho hc) hc⟩
theorem Kp.b {n₀ base : Nat} {w : World} (hn : n₀ ≤ w.heap.size) (W : World) (l : Nat) (o o' : Obj) (hl : w.heap.size ≤ l) (h : W.heap[l]? = some o) (hc : o.isCells = false) (hw : o.isWalk = false) : Kp n₀ base W (W.putObj l o') :=
 ⟨belowK_b hn W l o o' hl h hc hw, fun k u _ hk hu => by
  rw [World.putObj_heap_other (fun e => by subst e; rw [h] at hk; cases hk; rw [hc] at hu; cases hu)]; exact hk⟩
theorem Kp.refl (n₀ base : Nat) (W : World) : Kp n₀ base W W := ⟨Below.refl _ _, fun _ _ _ h _ => h⟩
theorem Kp.of_below {n₀ base : Nat} {W W' : World} (hn : n₀ ≤ W.heap.size) (hb : Below W.heap.size W W') : Kp n₀ base W W' :=
 ⟨hb.mono hn, fun k _ _ hk _ => (hb.block k (Array.getElem?_eq_some_iff.1 hk).1).trans hk⟩
theorem Kp.setCell {n₀ base : Nat} (W : World) {B o : Nat} (h1 : n₀ ≤ B) (h2 : B < base) (v : Value) : Kp n₀ base W (W.setCell ⟨B, o, none⟩ v) :=
 ⟨(Below.refl _ _).setCell h1 _, fun k u hk h _ => by rw [Below.heap_setCell _ _ _ _ (by simp; omega)]; exact h⟩
theorem cell_of_heap {w : World} {B k : Nat} {a : Array Value} {t : TypeId} {f : Nat × Nat} (h : w.heap[B]? = some (.cells a t f)) : w.cell? ⟨B, k, none⟩ = a[k]? := by
 rw [World.cell?, h]; rfl
theorem heap_new (w : World) (o : Obj) {B : Nat} (h : B = w.heap.size) : (w.alloc o).heap[B]? = some o := h ▸ World.alloc_heap_new _ _
theorem heap_old (w : World) (o : Obj) {B : Nat} {x : Obj} (h : w.heap[B]? = some x) : (w.alloc o).heap[B]? = some x :=
 (heap_alloc_old w o (Array.getElem?_eq_some_iff.1 h).1).trans h
theorem setCell_heap {w : World} {B o : Nat} {cs : Array Value} {t : TypeId} {f : Nat × Nat} (h : w.heap[B]? = some (.cells cs t f)) (v : Value) : (w.setCell ⟨B, o, none⟩ v).heap[B]? = some (.cells (cs.setIfInBounds o v) t f) := by
 show (w.heap.modify B _)[B]? = _
 rw [Array.getElem?_modify, if_pos rfl, h]
 rfl
theorem frozen_of_heap {w : World} {B k : Nat} {a : Array Value} {t : TypeId} (h : w.heap[B]? = some (.cells a t)) : w.frozen? ⟨B, k, none⟩ = false := by
 rw [World.frozen?, h]; simp
theorem blk {w : World} {B : Nat} {a : Array Value} {t : TypeId} (h : w.heap[B]? = some (.cells a t)) : (∀ k, w.cell? ⟨B, k, none⟩ = a[k]?) ∧ (∀ k, w.frozen? ⟨B, k, none⟩ = false) := ⟨fun _ => cell_of_heap h, fun _ => frozen_of_heap h⟩
theorem heap_below {X Y : World} {B : Nat} {x : Obj} (hb : Below X.heap.size X Y) (h : X.heap[B]? = some x) : Y.heap[B]? = some x := (hb.block B (Array.getElem?_eq_some_iff.1 h).1).trans h
def putIn (o : Nat) (v : Value) : Obj → Obj
 | .cells cs t f => .cells (cs.setIfInBounds o v) t f
 | x => x
theorem heap_set (w : World) (B o : Nat) (v : Value) (B' : Nat) : (w.setCell ⟨B, o, none⟩ v).heap[B']? = if B = B' then (w.heap[B']?).map (putIn o v) else w.heap[B']? := by
 show (w.heap.modify B _)[B']? = _
 rw [Array.getElem?_modify]
 congr 2
theorem drewN_below {B : Nat} {a w : World} {n : Nat} (h : Below B a w) : Below B a (w.drewN n) := ⟨h.os, h.tape, h.output, h.size, h.block⟩
theorem Boxed.newAt {W : World} {k : Nat} (h : W.heap.size = k) (t : TypeId) (v : Value) : Boxed (W.alloc (.cells #[v] t)) k t v := h ▸ Boxed.new W t v
theorem ownFrom_size {β : Type} (B n : Nat) : OwnFrom B (fun (_ : β) (W : World) => n ≤ W.heap.size) := fun _ _ _ _ hs hg _ => Nat.le_trans hs hg.size
end Go.Proofs.YtjpgffihafknlaaGreatDoor
namespace Go.Proofs.Qw
open Go.RowKit
theorem take_some {α : Type} {l : List α} {k : Nat} {x : α} (h : l[k]? = some x) : l.take (k + 1) = l.take k ++ [x] := by
 rw [List.take_add_one, h]; rfl
structure Cel where
 r : Int
 bits : Int
 href : List UInt8
 deriving DecidableEq, Inhabited
structure Lin where
 quote : Int
 lists : List Int
 kind : Int
 cells : List Cel
 deriving DecidableEq, Inhabited
abbrev Rd (α : Type) := World → (Nat → Prop) → List Value → α → Prop
structure Keeps (S : Nat → Prop) (w w' : World) : Prop where
 size : w.heap.size ≤ w'.heap.size
 block : ∀ b, S b → b < w.heap.size → w'.heap[b]? = w.heap[b]?
theorem Keeps.of_below {S : Nat → Prop} {n : Nat} {w w' : World} (h : Below n w w') (hS : ∀ b, S b → b < w.heap.size → b < n) : Keeps S w w' := ⟨h.size, fun b hb hz => h.block b (hS b hb hz)⟩
theorem Keeps.all {S : Nat → Prop} {w w' : World} (h : Below w.heap.size w w') : Keeps S w w' := ⟨h.size, fun b _ hz => h.block b hz⟩
theorem Keeps.refl (S : Nat → Prop) (w : World) : Keeps S w w := ⟨Nat.le_refl _, fun _ _ _ => rfl⟩
theorem Keeps.trans {S : Nat → Prop} {a b c : World} (h : Keeps S a b) (k : Keeps S b c) : Keeps S a c := ⟨Nat.le_trans h.size k.size, fun i hi hz => (k.block i hi (Nat.lt_of_lt_of_le hz h.size)).trans (h.block i hi hz)⟩
theorem Keeps.set {S : Nat → Prop} {a w : World} (h : Keeps S a w) {p : Addr} (hp : ¬ S p.block) (u : Value) : Keeps S a (w.setCell p u) :=
 h.trans ⟨by simp, fun b hb _ => Below.heap_setCell _ _ _ _ (fun e => hp (e ▸ hb))⟩
theorem Keeps.alloc {S : Nat → Prop} {a w : World} (h : Keeps S a w) (o : Obj) : Keeps S a (w.alloc o) := h.trans ⟨by simp, fun b _ hz => Below.heap_alloc _ _ _ hz⟩
theorem Keeps.drew {S : Nat → Prop} {a w : World} (h : Keeps S a w) : Keeps S a w.drew := h.trans ⟨Nat.le_refl _, fun _ _ _ => rfl⟩
theorem Keeps.on {S : Nat → Prop} {a w w' : World} (h : Keeps S a w) (hb : Below w.heap.size w w') : Keeps S a w' := h.trans (.all hb)
structure Stable {α : Type} (R : Rd α) : Prop where
 go : ∀ (w w' : World) (S S' : Nat → Prop) (vs : List Value) (x : α), R w S vs x → Keeps S w w' → (∀ b, S b → b < w.heap.size → S' b) → R w' S' vs x
def rdOf {α : Type} (enc : α → List Value) : Rd α := fun _ _ vs x => vs = enc x
theorem rdOf_stable {α : Type} (enc : α → List Value) : Stable (rdOf enc) := ⟨fun _ _ _ _ _ _ h _ _ => h⟩
def SliceR {α : Type} (t : TypeId) (k : Nat) (R : Rd α) (own : Bool) (w : World) (S : Nat → Prop) (v : Value) (xs : List α) : Prop :=
 ∃ a c, v = .slice a xs.length c ∧ xs.length ≤ c ∧ c ≤ maxLen ∧ ((xs = [] ∧ (own = true → c = 0)) ∨ ∃ b o, a = some ⟨b, o, none⟩ ∧ S b ∧ b < w.heap.size ∧ (own = true → ∃ cs, w.heap[b]? = some (.cells cs t) ∧ o + c * k ≤ cs.size) ∧
  ∀ i x, xs[i]? = some x → ∃ vs : List Value, vs.length = k ∧ R w S vs x ∧ ∀ j u, vs[j]? = some u → w.cell? ⟨b, o + i * k + j, none⟩ = some u)
section
variable {α : Type} {t : TypeId} {k : Nat} {R : Rd α} {own : Bool} {w w' : World} {S S' : Nat → Prop} {v : Value} {xs : List α}
theorem SliceR.stable (hR : Stable R) (h : SliceR t k R own w S v xs) (hk : Keeps S w w') (hS : ∀ b, S b → b < w.heap.size → S' b) : SliceR t k R own w' S' v xs := by
 obtain ⟨a, c, h1, h2, h3, h | ⟨b, o, rfl, hb, hz, hf, he⟩⟩ := h
 ·exact ⟨a, c, h1, h2, h3, .inl h⟩
 ·refine ⟨_, c, h1, h2, h3, .inr ⟨b, o, rfl, hS b hb hz, Nat.lt_of_lt_of_le hz hk.size, fun ho => ?_, fun i x hx => ?_⟩⟩
  ·obtain ⟨cs, h1, h2⟩ := hf ho
   exact ⟨cs, (hk.block b hb hz).trans h1, h2⟩
  ·obtain ⟨vs, h1, h2, h3⟩ := he i x hx
   exact ⟨vs, h1, hR.go _ _ _ _ _ _ h2 hk hS, fun j u hu => by rw [World.cell?_of_block (w := w) (hk.block b hb hz)]; exact h3 j u hu⟩
theorem SliceR.below (hR : Stable R) (h : SliceR t k R own w S v xs) (hb : Below w.heap.size w w') : SliceR t k R own w' S v xs :=
 h.stable hR (.all hb) (fun _ h _ => h)
theorem SliceR.read {R' : Rd α} (hRR : ∀ vs x, R w S vs x → R' w S vs x) (h : SliceR t k R own w S v xs) : SliceR t k R' false w S v xs := by
 obtain ⟨a, c, h1, h2, h3, h | ⟨b, o, rfl, hb, hz, hf, he⟩⟩ := h
 ·exact ⟨a, c, h1, h2, h3, .inl ⟨h.1, fun h => by cases h⟩⟩
 ·exact ⟨_, c, h1, h2, h3, .inr ⟨b, o, rfl, hb, hz, (fun h => by cases h), fun i x hx => by
   obtain ⟨vs, g1, g2, g3⟩ := he i x hx
   exact ⟨vs, g1, hRR _ _ g2, g3⟩⟩⟩
theorem SliceR.nil (t : TypeId) (k : Nat) (R : Rd α) (own : Bool) (w : World) (S : Nat → Prop) : SliceR t k R own w S (.slice none 0 0) [] := ⟨none, 0, rfl, Nat.le_refl _, by decide, .inl ⟨rfl, fun _ => rfl⟩⟩
theorem SliceR.empty (t : TypeId) (k : Nat) (R : Rd α) (own : Bool) (w : World) (S : Nat → Prop) (a : Option Addr) : SliceR t k R own w S (.slice a 0 0) [] := ⟨a, 0, rfl, Nat.le_refl _, by decide, .inl ⟨rfl, fun _ => rfl⟩⟩
theorem SliceR.shape (h : SliceR t k R own w S v xs) :
  ∃ a c, v = .slice a xs.length c ∧ xs.length ≤ c ∧ c ≤ maxLen ∧ ∀ i x, xs[i]? = some x → ∃ b o vs, a = some ⟨b, o, none⟩ ∧ b < w.heap.size ∧ S b ∧ vs.length = k ∧ R w S vs x ∧ ∀ j u, vs[j]? = some u → w.cell? ⟨b, o + i * k + j, none⟩ = some u := by
 obtain ⟨a, c, rfl, hc, hm, ⟨rfl, _⟩ | ⟨b, o, rfl, hb, hz, _, he⟩⟩ := h
 ·exact ⟨a, c, rfl, hc, hm, fun i x hx => by cases hx⟩
 ·exact ⟨_, c, rfl, hc, hm, fun i x hx => by
   obtain ⟨vs, h1, h2, h3⟩ := he i x hx
   exact ⟨b, o, vs, rfl, hz, hb, h1, h2, h3⟩⟩
theorem SliceR.slice (h : SliceR t k R own w S v xs) : ∃ a c, v = .slice a xs.length c := by
 obtain ⟨a, c, rfl, _⟩ := h
 exact ⟨a, c, rfl⟩
theorem SliceR.len {a : Option Addr} {n c : Nat} (h : SliceR t k R own w S (.slice a n c) xs) : n = xs.length ∧ xs.length ≤ c ∧ c ≤ maxLen := by
 obtain ⟨a', c', e, hc, hm, hx⟩ := h
 cases e
 exact ⟨rfl, hc, hm⟩
theorem SliceR.part {a : Option Addr} {n c : Nat} (h : SliceR t k R own w S (.slice a n c) xs) {i j m : Nat} (hij : i ≤ j) (hj : j ≤ xs.length) (hjm : j ≤ m) (hm : m ≤ c) : SliceR t k R own w S (sliced a i j m k) ((xs.drop i).take (j - i)) := by
 obtain ⟨a0, c0, e, hc, hcm, hx⟩ := h
 cases e
 have hl : ((xs.drop i).take (j - i)).length = j - i := by rw [List.length_take, List.length_drop]; omega
 refine ⟨_, m - i, by rw [hl]; rfl, by rw [hl]; omega, by omega, ?_⟩
 by_cases hi : m = i
 ·have : j - i = 0 := by omega
  rw [this]
  exact .inl ⟨by simp, fun _ => by omega⟩
 rcases hx with ⟨rfl, h0⟩ | ⟨b, o, rfl, hb, hz, hf, he⟩
 ·exact .inl ⟨by simp, fun ho => by have := h0 ho; omega⟩
 ·rw [if_neg hi]
  refine .inr ⟨b, o + i * k, ?_, hb, hz, fun ho => ?_, fun q x hq => ?_⟩
  ·show some ((⟨b, o, none⟩ : Addr).add (i * k)) = _
   unfold Addr.add
   split
   ·rename_i h0; rw [h0, Nat.add_zero]
   ·simp
  ·obtain ⟨cs, g1, g2⟩ := hf ho
   refine ⟨cs, g1, ?_⟩
   have : i * k + (m - i) * k ≤ c * k := by rw [← Nat.add_mul]; exact Nat.mul_le_mul_right _ (by omega)
   omega
  ·rw [List.getElem?_take] at hq
   split at hq
   ·rw [List.getElem?_drop] at hq
    obtain ⟨vs, g1, g2, g3⟩ := he _ _ hq
    refine ⟨vs, g1, g2, fun p u hu => ?_⟩
    have := g3 p u hu
    rw [show o + i * k + q * k + p = o + (i + q) * k + p by rw [Nat.add_mul]; omega]
    exact this
   ·cases hq
theorem SliceR.take {a : Option Addr} {n c : Nat} (h : SliceR t k R own w S (.slice a n c) xs) {i : Nat} (hi : i ≤ xs.length) : SliceR t k R own w S (.slice a i c) (xs.take i) := by
 obtain ⟨a', c', e, hc, hm, hx⟩ := h
 cases e
 have hl : (xs.take i).length = i := by rw [List.length_take]; omega
 refine ⟨a, c, by rw [hl], by omega, hm, ?_⟩
 rcases hx with ⟨rfl, h0⟩ | ⟨b, o, rfl, hb, hz, hf, he⟩
 ·exact .inl ⟨by simp, h0⟩
 ·refine .inr ⟨b, o, rfl, hb, hz, hf, fun j x hj => he j x ?_⟩
  rw [List.getElem?_take] at hj
  split at hj
  ·exact hj
  ·cases hj
end
def encInt (n : Int) : List Value := [.int .i64 n]
def encRune (n : Int) : List Value := [.int .i32 n]
def encCel (c : Cel) : List Value := [.int .i32 c.r, .int .i64 c.bits, .string ⟨c.href.toArray⟩]
abbrev IntsR := SliceR 3 1 (rdOf encInt)
abbrev CelsR := SliceR 66 3 (rdOf encCel)
def rdLin (own : Bool) : Rd Lin := fun w S vs l => ∃ a b, vs = [.int .i64 l.quote, a, .int .i64 l.kind, b] ∧ IntsR own w S a l.lists ∧ CelsR own w S b l.cells
theorem rdLin_stable (own : Bool) : Stable (rdLin own) := ⟨fun _ _ _ _ _ _ ⟨a, b, h1, h2, h3⟩ hk hS => ⟨a, b, h1, SliceR.stable (rdOf_stable _) h2 hk hS, SliceR.stable (rdOf_stable _) h3 hk hS⟩⟩
theorem rdLin_read {own : Bool} {w : World} {S : Nat → Prop} {vs : List Value} {l : Lin} : rdLin own w S vs l → rdLin false w S vs l :=
 fun ⟨a, b, h1, h2, h3⟩ => ⟨a, b, h1, h2.read fun _ _ h => h, h3.read fun _ _ h => h⟩
def DocR (own : Bool) := SliceR 37 4 (rdLin own) own
theorem DocR.below {own : Bool} {w w' : World} {S : Nat → Prop} {v : Value} {xs : List Lin} (h : DocR own w S v xs) (hb : Below w.heap.size w w') : DocR own w' S v xs := SliceR.below (rdLin_stable own) h hb
abbrev LinsR (w : World) (S : Nat → Prop) (v : Value) (d : List Lin) : Prop := SliceR 37 4 (rdLin false) false w S v d
theorem DocR.read {own : Bool} {w : World} {S : Nat → Prop} {v : Value} {xs : List Lin} (h : DocR own w S v xs) : LinsR w S v xs := SliceR.read (fun _ _ h => rdLin_read h) h
structure LinAt (w : World) (S : Nat → Prop) (b o : Nat) (l : Lin) (la : Option Addr) (lc : Nat) (ca : Option Addr) (cc : Nat) : Prop where
 lt : b < w.heap.size
 quote : w.cell? ⟨b, o, none⟩ = some (.int .i64 l.quote)
 lists : w.cell? ⟨b, o + 1, none⟩ = some (.slice la l.lists.length lc)
 kind : w.cell? ⟨b, o + 2, none⟩ = some (.int .i64 l.kind)
 cells : w.cell? ⟨b, o + 3, none⟩ = some (.slice ca l.cells.length cc)
 listsR : IntsR false w S (.slice la l.lists.length lc) l.lists
 cellsR : CelsR false w S (.slice ca l.cells.length cc) l.cells
theorem LinAt.below {w w' : World} {S : Nat → Prop} {b o : Nat} {l : Lin} {la ca : Option Addr} {lc cc : Nat} (h : LinAt w S b o l la lc ca cc) (hb : Below w.heap.size w w') : LinAt w' S b o l la lc ca cc :=
 ⟨Nat.lt_of_lt_of_le h.lt hb.size, (hb.cell h.lt).trans h.quote, (hb.cell h.lt).trans h.lists, (hb.cell h.lt).trans h.kind, (hb.cell h.lt).trans h.cells, h.listsR.below (rdOf_stable _) hb, h.cellsR.below (rdOf_stable _) hb⟩
theorem lins_shape {w : World} {S : Nat → Prop} {v : Value} {d : List Lin} (h : LinsR w S v d) :
  ∃ a c, v = .slice a d.length c ∧ d.length ≤ c ∧ c ≤ maxLen ∧ ∀ i l, d[i]? = some l → ∃ b o la lc ca cc, a = some ⟨b, o, none⟩ ∧ LinAt w S b (o + i * 4) l la lc ca cc := by
 obtain ⟨a, c, rfl, hc, hm, hx⟩ := h.shape
 refine ⟨a, c, rfl, hc, hm, fun i l hl => ?_⟩
 obtain ⟨b, o, vs, rfl, hz, _, _, ⟨x, y, rfl, h1, h2⟩, he⟩ := hx i l hl
 obtain ⟨la, lc, rfl⟩ := h1.slice
 obtain ⟨ca, cc, rfl⟩ := h2.slice
 exact ⟨b, o, la, lc, ca, cc, rfl, hz, he 0 _ rfl, he 1 _ rfl, he 2 _ rfl, he 3 _ rfl, h1, h2⟩
def celV (c : Cel) : Value := .agg #[.int .i32 c.r, .int .i64 c.bits, .string ⟨c.href.toArray⟩]
theorem cels_shape {w : World} {S : Nat → Prop} {v : Value} {d : List Cel} (h : CelsR false w S v d) :
  ∃ a c, v = .slice a d.length c ∧ d.length ≤ c ∧ c ≤ maxLen ∧ ∀ i l, d[i]? = some l → ∃ b o, a = some ⟨b, o, none⟩ ∧ b < w.heap.size ∧ w.cell? ⟨b, o + i * 3, none⟩ = some (.int .i32 l.r) ∧ w.cell? ⟨b, o + i * 3 + 1, none⟩ = some (.int .i64 l.bits) ∧ w.cell? ⟨b, o + i * 3 + 2, none⟩ = some (.string ⟨l.href.toArray⟩) := by
 obtain ⟨a, c, rfl, hc, hm, hx⟩ := h.shape
 refine ⟨a, c, rfl, hc, hm, fun i l hl => ?_⟩
 obtain ⟨b, o, vs, rfl, hz, _, _, e, he⟩ := hx i l hl
 cases e
 exact ⟨b, o, rfl, hz, he 0 _ rfl, he 1 _ rfl, he 2 _ rfl⟩
theorem ints_shape {w : World} {S : Nat → Prop} {v : Value} {d : List Int} (h : IntsR false w S v d) :
  ∃ a c, v = .slice a d.length c ∧ d.length ≤ c ∧ c ≤ maxLen ∧ ∀ i l, d[i]? = some l → ∃ b o, a = some ⟨b, o, none⟩ ∧ b < w.heap.size ∧ w.cell? ⟨b, o + i, none⟩ = some (.int .i64 l) := by
 obtain ⟨a, c, rfl, hc, hm, hx⟩ := h.shape
 refine ⟨a, c, rfl, hc, hm, fun i l hl => ?_⟩
 obtain ⟨b, o, vs, rfl, hz, _, _, e, he⟩ := hx i l hl
 cases e
 have := he 0 _ rfl
 rw [Nat.mul_one] at this
 exact ⟨b, o, rfl, hz, this⟩
end Go.Proofs.Qw
namespace Go.Proofs.Qw
def classF (c : Int) : Int :=
 if Lib.validRune c = false then 0 else if c < 32 then 1 else if c = 127 then 1 else if c = 32 ∨ c = 160 then 2 else if c = 65533 then 5
 else if 97 ≤ c ∧ c ≤ 122 then 3 else if 65 ≤ c ∧ c ≤ 90 then 3 else if 128 ≤ c then 3 else if 48 ≤ c ∧ c ≤ 57 then 4 else 5
def mayR (c : Int) : Bool := decide (1 < classF c)
def runesGo (s : ByteArray) : Nat → Nat → List Int
 | 0, _ => []
 | f + 1, pos => if pos < s.size then ((Utf8.decode s pos).1 : Int) :: runesGo s f (pos + (Utf8.decode s pos).2) else []
def runesB (s : ByteArray) : List Int := runesGo s s.size 0
def valueB (s : ByteArray) : Bool := (runesB s).all mayR && (decide (s.size ≤ 200) && Lib.validD s.data.toList)
def valueF (s : List UInt8) : Bool := valueB ⟨s.toArray⟩
def lowR (c : Int) : Int := if 65 ≤ c ∧ c ≤ 90 then c + 32 else c
def javascript : List UInt8 := [106, 97, 118, 97, 115, 99, 114, 105, 112, 116]
def targetF (s : List UInt8) : Bool :=
 valueF s && (decide (s ≠ []) && (decide (s.head? ≠ some 32) && (decide (s.getLast? ≠ some 32) && !(Lib.mapD lowR (Lib.cut s [58]).1 == javascript))))
def linkF (s : List UInt8) : Bool := decide (s = []) || targetF s
def mayC (c : Cel) : Bool := (mayR c.r || decide (c.r = 10)) && decide (0 ≤ c.bits) && decide (c.bits ≤ 15) && linkF c.href
def mayCs (l : List Cel) : Bool := l.all mayC
def mayL (l : Lin) : Bool :=
 decide (0 ≤ l.quote) && decide (l.quote ≤ 6) && decide (l.lists.length ≤ 6) && decide (0 ≤ l.kind) && decide (l.kind ≤ 3) && (decide (l.lists = []) || decide (l.kind = 0)) && l.lists.all (fun k => decide (k = 0 ∨ k = 1)) && mayCs l.cells
abbrev Doc := List Lin
def sizeD (d : Doc) : Nat := (d.map (·.cells.length)).sum
def mayD (d : Doc) : Bool := decide (1 ≤ d.length) && decide (d.length ≤ 200) && decide (sizeD d ≤ 4000) && d.all mayL
structure Ps where
 line : Int
 col : Int
 deriving DecidableEq, Inhabited
def isD (d : Doc) (p : Ps) : Bool := decide (0 ≤ p.line) && decide (p.line < d.length) && decide (0 ≤ p.col) && decide (p.col ≤ ((d.getD p.line.toNat default).cells.length : Int))
def cmpI (a b : Int) : Int := if a < b then -1 else if b < a then 1 else 0
def cmpP (a b : Ps) : Int := if cmpI a.line b.line ≠ 0 then cmpI a.line b.line else cmpI a.col b.col
def Small (d : Doc) : Prop := sizeD d ≤ 100000 ∧ d.length ≤ 100000 ∧ ∀ l ∈ d, ∀ c ∈ l.cells, c.href.length ≤ 1000000
end Go.Proofs.Qw
namespace Go.Proofs.Qw
open Go.RowKit Go.Proofs.YtjpgffihafknlaaGreatDoor
structure Tagged {α : Type} (t : TypeId) (R : Rd α) : Prop where
 go : ∀ (w w' : World) (S S' : Nat → Prop) (vs : List Value) (x : α), R w S vs x → w.heap.size ≤ w'.heap.size → (∀ b, S b → b < w.heap.size → (∀ cs, w.heap[b]? ≠ some (.cells cs t)) → w'.heap[b]? = w.heap[b]?) →
  (∀ b, S b → b < w.heap.size → S' b) → R w' S' vs x
structure Elt {α : Type} (t : TypeId) (k : Nat) (R : Rd α) : Prop where
 pos : 0 < k
 len : ∀ w S vs x, R w S vs x → vs.length = k
 ones : ∀ w S vs x, R w S vs x → ∀ u ∈ vs, u.oneCell' = true
 tag : Tagged t R
 st : Stable R
structure RowT (P : Program) (st t : TypeId) (k : Nat) : Prop where
 under : P.underlying st = some (.slice t)
 info : ∃ i z, P.info? t = some i ∧ i.zero = some z ∧ i.size = k ∧ i.bytes ≤ 256 ∧ z.cells.size = k
theorem RowT.mk' {P : Program} {st t : TypeId} {k y : Nat} {z : Value} (h : P.underlying st = some (.slice t)) (hi : (P.info? t).map (fun i => (i.zero, i.size, i.bytes)) = some (some z, k, y)) (hy : y ≤ 256) (hz : z.cells.size = k) : RowT P st t k := by
 obtain ⟨i, h1, h2, h3, h4⟩ := info_parts hi
 exact ⟨h, i, z, h1, h2, h3, by omega, hz⟩
theorem tagged_of {α : Type} (t : TypeId) (enc : α → List Value) : Tagged t (rdOf enc) := ⟨fun _ _ _ _ _ _ h _ _ _ => h⟩
theorem elt_of {α : Type} (t : TypeId) {k : Nat} {enc : α → List Value} (h0 : 0 < k) (h1 : ∀ x, (enc x).length = k) (h2 : ∀ x, ∀ u ∈ enc x, u.oneCell' = true) : Elt t k (rdOf enc) :=
 ⟨h0, fun _ _ _ x h => h ▸ h1 x, fun _ _ _ x h => h ▸ h2 x, tagged_of t enc, rdOf_stable enc⟩
theorem SliceR.tagged {α : Type} {t s : TypeId} {k : Nat} {R : Rd α} (hR : Tagged t R) (hst : s ≠ t) : ∀ {w w' : World} {S S' : Nat → Prop} {v : Value} {xs : List α}, SliceR s k R true w S v xs → w.heap.size ≤ w'.heap.size →
  (∀ b, S b → b < w.heap.size → (∀ cs, w.heap[b]? ≠ some (.cells cs t)) → w'.heap[b]? = w.heap[b]?) → (∀ b, S b → b < w.heap.size → S' b) → SliceR s k R true w' S' v xs := by
 intro w w' S S' v xs h hz hk hS
 obtain ⟨a, c, h1, h2, h3, h | ⟨b, o, rfl, hb, hz', hf, he⟩⟩ := h
 ·exact ⟨a, c, h1, h2, h3, .inl h⟩
 ·obtain ⟨cs, g1, g2⟩ := hf rfl
  have hsame : w'.heap[b]? = w.heap[b]? := hk b hb hz' (fun cs' e => by rw [g1] at e; cases e; exact hst rfl)
  refine ⟨_, c, h1, h2, h3, .inr ⟨b, o, rfl, hS b hb hz', Nat.lt_of_lt_of_le hz' hz, fun _ => ⟨cs, hsame.trans g1, g2⟩, fun i x hx => ?_⟩⟩
  obtain ⟨vs, k1, k2, k3⟩ := he i x hx
  exact ⟨vs, k1, hR.go _ _ _ _ _ _ k2 hz hk hS, fun j u hu => by rw [World.cell?_of_block (w := w) hsame]; exact k3 j u hu⟩
theorem setCells_heap : ∀ (l : List Value) (w : World) (b o : Nat) (cs : Array Value) (t : TypeId) (f : Nat × Nat), w.heap[b]? = some (.cells cs t f) → o + l.length ≤ cs.size →
  ∃ cs' : Array Value, (w.setCells b o l).heap[b]? = some (.cells cs' t f) ∧ cs'.size = cs.size ∧ (∀ j, (j < o ∨ o + l.length ≤ j) → cs'[j]? = cs[j]?) ∧ (∀ j u, l[j]? = some u → cs'[o + j]? = some u)
 | [], w, b, o, cs, t, f, h, _ => ⟨cs, h, rfl, fun _ _ => rfl, fun j u hu => by cases hu⟩
 | v :: l, w, b, o, cs, t, f, h, hl => by
  have h1 : (w.setCell ⟨b, o, none⟩ v).heap[b]? = some (.cells (cs.setIfInBounds o v) t f) := by
   show (w.heap.modify b _)[b]? = _
   rw [Array.getElem?_modify, if_pos rfl, h]
   rfl
  simp only [List.length_cons] at hl
  obtain ⟨cs', g1, g2, g3, g4⟩ := setCells_heap l (w.setCell ⟨b, o, none⟩ v) b (o + 1) _ t f h1 (by simp; omega)
  refine ⟨cs', g1, by rw [g2]; simp, fun j hj => ?_, fun j u hu => ?_⟩
  ·simp only [List.length_cons] at hj
   rw [g3 j (by omega), Array.getElem?_setIfInBounds]
   rw [if_neg (by omega)]
  ·match j, hu with
   | 0, hu =>
    cases hu
    rw [Nat.add_zero, g3 o (by omega), Array.getElem?_setIfInBounds, if_pos rfl, if_pos (by omega)]
   | j + 1, hu =>
    have := g4 j u hu
    rw [show o + (j + 1) = o + 1 + j by omega]
    exact this
theorem setCells_size (b : Nat) : ∀ (l : List Value) (o : Nat) (w : World), (w.setCells b o l).heap.size = w.heap.size
 | [], _, _ => rfl
 | v :: l, o, w => by rw [World.setCells, setCells_size b l]; simp
theorem setCells_other (b : Nat) : ∀ (l : List Value) (o : Nat) (w : World) (c : Nat), c ≠ b → (w.setCells b o l).heap[c]? = w.heap[c]?
 | [], _, _, _, _ => rfl
 | v :: l, o, w, c, h => by rw [World.setCells, setCells_other b l _ _ _ h, Below.heap_setCell _ _ _ _ h]
theorem setCells_rest (b : Nat) : ∀ (l : List Value) (o : Nat) (w : World), (w.setCells b o l).os = w.os ∧ (w.setCells b o l).tape = w.tape ∧ (w.setCells b o l).output = w.output
 | [], _, _ => ⟨rfl, rfl, rfl⟩
 | v :: l, o, w => by rw [World.setCells]; exact setCells_rest b l _ _
theorem setCells_below {n b o : Nat} {l : List Value} {w : World} (h : n ≤ b) : Below n w (w.setCells b o l) :=
 ⟨(setCells_rest b l o w).1, (setCells_rest b l o w).2.1, (setCells_rest b l o w).2.2, Nat.le_of_eq (setCells_size b l o w).symm, fun c hc => setCells_other b l o w c (by omega)⟩
theorem flatten_at {k : Nat} : ∀ (vss : List (List Value)) (i : Nat) (vs : List Value) (j : Nat) (u : Value), (∀ vs ∈ vss, vs.length = k) → vss[i]? = some vs → vs[j]? = some u → vss.flatten[i * k + j]? = some u
 | [], i, vs, j, u, _, h, _ => by cases h
 | x :: l, 0, vs, j, u, hk, h, hu => by
  cases h
  rw [List.flatten_cons, List.getElem?_append_left (by have := (List.getElem?_eq_some_iff.1 hu).1; omega), Nat.zero_mul, Nat.zero_add]
  exact hu
 | x :: l, i + 1, vs, j, u, hk, h, hu => by
  have hx := hk x (by simp)
  rw [List.flatten_cons, List.getElem?_append_right (by rw [hx, Nat.add_mul]; omega), hx, show (i + 1) * k + j - k = i * k + j by rw [Nat.add_mul]; omega]
  exact flatten_at l i vs j u (fun y hy => hk y (by simp [hy])) h hu
theorem at_flatten {k : Nat} (hp : 0 < k) : ∀ (vss : List (List Value)) (j : Nat) (u : Value), (∀ vs ∈ vss, vs.length = k) → vss.flatten[j]? = some u → ∃ vs, vss[j / k]? = some vs ∧ vs[j % k]? = some u
 | [], j, u, _, h => by cases h
 | x :: l, j, u, hk, h => by
  have hx := hk x (by simp)
  rw [List.flatten_cons] at h
  by_cases hj : j < k
  ·rw [List.getElem?_append_left (by omega)] at h
   rw [Nat.div_eq_of_lt hj, Nat.mod_eq_of_lt hj]
   exact ⟨x, rfl, h⟩
  ·rw [List.getElem?_append_right (by omega), hx] at h
   obtain ⟨vs, h1, h2⟩ := at_flatten hp l (j - k) u (fun y hy => hk y (by simp [hy])) h
   rw [Nat.div_eq_sub_div hp (by omega), Nat.mod_eq_sub_mod (by omega)]
   exact ⟨vs, h1, h2⟩
theorem flatten_len {k : Nat} : ∀ (vss : List (List Value)), (∀ vs ∈ vss, vs.length = k) → vss.flatten.length = vss.length * k
 | [], _ => by simp
 | x :: l, hk => by
  rw [List.flatten_cons, List.length_append, hk x (by simp), flatten_len l (fun y hy => hk y (by simp [hy])), List.length_cons, Nat.add_mul]
  omega
theorem SliceR.cellss {α : Type} {t : TypeId} {k : Nat} {R : Rd α} {own : Bool} {w : World} {S : Nat → Prop} {v : Value} : ∀ {xs : List α}, SliceR t k R own w S v xs →
  ∃ vss : List (List Value), vss.length = xs.length ∧ (∀ vs ∈ vss, vs.length = k) ∧ ∀ i x, xs[i]? = some x → ∃ vs, vss[i]? = some vs ∧ R w S vs x ∧ ∃ a n c, v = .slice (some a) n c ∧ ∀ j u, vs[j]? = some u → w.cell? (a.add (i * k + j)) = some u := by
 intro xs h
 obtain ⟨a, c, rfl, _, _, ⟨rfl, _⟩ | ⟨b, o, rfl, hb, hz, hf, he⟩⟩ := h
 ·exact ⟨[], rfl, (fun _ h => by cases h), fun i x hx => by cases hx⟩
 ·classical
  have hc : ∀ i : Fin xs.length, ∃ vs : List Value, vs.length = k ∧ R w S vs xs[i] ∧ ∀ j u, vs[j]? = some u → w.cell? ⟨b, o + i * k + j, none⟩ = some u := fun i => he i _ (List.getElem?_eq_getElem i.2)
  refine ⟨List.ofFn fun i => Classical.choose (hc i), by simp, fun vs hvs => ?_, fun i x hx => ?_⟩
  ·obtain ⟨i, rfl⟩ := List.mem_ofFn.1 hvs
   exact (Classical.choose_spec (hc i)).1
  ·have hi := (List.getElem?_eq_some_iff.1 hx).1
   have hxe : xs[i] = x := (List.getElem?_eq_some_iff.1 hx).2
   have := Classical.choose_spec (hc ⟨i, hi⟩)
   subst hxe
   refine ⟨_, by rw [List.getElem?_ofFn, dif_pos hi], this.2.1, ⟨b, o, none⟩, _, c, rfl, fun j u hu => ?_⟩
   have h3 := this.2.2 j u hu
   rw [show (⟨b, o, none⟩ : Addr).add (i * k + j) = ⟨b, o + i * k + j, none⟩ by unfold Addr.add; split <;> simp_all <;> omega]
   exact h3
theorem SliceR.src {P : Program} {st t : TypeId} {k : Nat} (hT : RowT P st t k) {α : Type} {R : Rd α} (hk : 0 < k) (hones : ∀ w S vs x, R w S vs x → ∀ u ∈ vs, u.oneCell' = true) {own : Bool} {w : World} {S : Nat → Prop} {v : Value} {xs : List α} (h : SliceR t k R own w S v xs) :
  ∃ news : List Value, Src P k st v xs.length news w ∧ ∀ i x, xs[i]? = some x → ∃ vs, vs.length = k ∧ R w S vs x ∧ ∀ j u, vs[j]? = some u → news[i * k + j]? = some u := by
 obtain ⟨vss, h1, h2, h3⟩ := h.cellss
 have hlen := flatten_len vss h2
 obtain ⟨a, c, rfl, _, _⟩ := id h
 refine ⟨vss.flatten, ?_, fun i x hx => ?_⟩
 ·have hone : ∀ u ∈ vss.flatten, u.oneCell' = true := by
   intro u hu
   obtain ⟨vs, hvs, hu⟩ := List.mem_flatten.1 hu
   obtain ⟨i, hi⟩ := List.getElem?_of_mem hvs
   have hil := (List.getElem?_eq_some_iff.1 hi).1
   obtain ⟨vs', g1, g2, _⟩ := h3 i xs[i] (List.getElem?_eq_getElem (by omega))
   rw [hi] at g1
   cases g1
   exact hones _ _ _ _ g2 u hu
  cases a with
  | none =>
   have hx : xs = [] := by
    cases xs with
    | nil => rfl
    | cons x l => obtain ⟨vs, _, _, a, _, _, e, _⟩ := h3 0 x rfl; cases e
   subst hx
   rw [List.length_eq_zero_iff.1 h1]
   exact Src.ofNil w hT.under c
  | some a =>
   refine Src.ofSlice w hT.under a xs.length c _ (by rw [hlen, h1]) (fun j u hu => ?_) hone
   obtain ⟨vs, g1, g2⟩ := at_flatten hk vss j u h2 hu
   have hil := (List.getElem?_eq_some_iff.1 g1).1
   obtain ⟨vs', g3, _, a', _, _, e, g4⟩ := h3 (j / k) _ (List.getElem?_eq_getElem (by omega))
   rw [g1] at g3
   cases g3
   cases e
   have := g4 _ u g2
   rwa [Nat.div_add_mod' j k] at this
 ·obtain ⟨vs, g1, g2, _⟩ := h3 i x hx
  exact ⟨vs, h2 vs (List.mem_of_getElem? g1), g2, fun j u hu => flatten_at vss i vs j u h2 g1 hu⟩
theorem src_one {P : Program} {st t : TypeId} {k : Nat} (hT : RowT P st t k) (w : World) (l : List Value) (hl : l.length = k) (h1 : ∀ u ∈ l, u.oneCell' = true) (c : Nat) : Src P k st (.slice (some ⟨w.heap.size, 0, none⟩) 1 c) 1 l (w.alloc (.cells l.toArray t)) :=
 Src.ofSlice _ hT.under _ 1 c l (by omega) (fun j u hu => by
  rw [show (⟨w.heap.size, 0, none⟩ : Addr).add j = ⟨w.heap.size, j, none⟩ by unfold Addr.add; split <;> simp_all]
  rw [World.cell?, World.alloc_heap_new]
  simpa using hu) h1
def NewsR {α : Type} (k : Nat) (R : Rd α) (w : World) (S : Nat → Prop) (news : List Value) (ys : List α) : Prop :=
 ∀ i y, ys[i]? = some y → ∃ vs, vs.length = k ∧ R w S vs y ∧ ∀ j u, vs[j]? = some u → news[i * k + j]? = some u
theorem NewsR.one {α : Type} {k : Nat} {R : Rd α} {w : World} {S : Nat → Prop} {l : List Value} {y : α} (hl : l.length = k) (h : R w S l y) : NewsR k R w S l [y] := fun i x hx => by
 match i, hx with
 | 0, hx => cases hx; exact ⟨l, hl, h, fun j u hu => by rw [Nat.zero_mul, Nat.zero_add]; exact hu⟩
theorem append_R {P : Program} {st tx ty t : TypeId} {k : Nat} (hT : RowT P st t k) {α : Type} {R : Rd α} (hE : Elt t k R) {w : World} {n : Nat} {v x : Value} {xs ys : List α} {news : List Value}
  (h1 : SliceR t k R true w (fun b => n ≤ b) v xs) (hn : n ≤ w.heap.size) (hs : Src P k tx x ys.length news w) (hnew : NewsR k R w (fun b => n ≤ b) news ys) (hlen : xs.length + ys.length ≤ 100000000) :
  ∃ v' w', (Builtin.append_ #[st, tx] ty #[v, x]).run P w = .ok v' w' ∧ SliceR t k R true w' (fun b => n ≤ b) v' (xs ++ ys) ∧ Below n w w' ∧ w.grownBy w' v.ownBlock ∧ (v'.ownBlock = v.ownBlock ∨ v'.ownBlock = some w.heap.size) := by
 obtain ⟨i, z, hi, hz, rfl, hby, hzs⟩ := hT.info
 obtain ⟨a, c, rfl, hc, hcm, hx⟩ := h1
 have hbytes : (xs.length + ys.length) * i.bytes ≤ 140737488355328 := Nat.le_trans (Nat.mul_le_mul hlen hby) (by decide)
 by_cases hroom : xs.length + ys.length ≤ c
 ·rcases hx with ⟨rfl, h0⟩ | ⟨b, o, rfl, hb, hzb, hf, he⟩
  ·have h0 := h0 rfl
   have hy : ys = [] := List.length_eq_zero_iff.1 (by simp at hroom; omega)
   subst hy
   have hnl : news = [] := List.length_eq_zero_iff.1 (by simpa using hs.newsLen)
   refine ⟨.slice a 0 c, w, ?_, ⟨a, c, rfl, Nat.zero_le _, hcm, .inl ⟨rfl, fun _ => h0⟩⟩, Below.refl _ _, ⟨rfl, rfl, rfl, Nat.le_refl _, fun _ _ _ => rfl⟩, .inl rfl⟩
   have hcl : (Builtin.firstCells i.size 0 x).run P w = .ok #[] w := by
    have := hs.cells
    rw [hnl] at this
    exact this
   rcases hs.kind with ⟨e', hk⟩ | hk <;> cases a <;>
    simp [Builtin.append_, run_underlying hT.under, run_underlying hk, sizeOf, typeInfo, hi, hs.len, h0, hcl, storeCells, Result.andThen]
  ·obtain ⟨cs, g1, g2⟩ := hf rfl
   have hfit : o + xs.length * i.size + news.length ≤ cs.size := by
    rw [hs.newsLen]
    have : xs.length * i.size + ys.length * i.size ≤ c * i.size := by rw [← Nat.add_mul]; exact Nat.mul_le_mul_right _ hroom
    omega
   have hrun := run_append_room_src (P := P) w st tx ty t i hT.under hi b o xs.length c x ys.length news hs hroom
    (fun j hj => by rw [cell_of_heap g1, Array.getElem?_eq_getElem (by omega)]; rfl) (fun j hj => by rw [World.frozen?, g1]; simp)
   obtain ⟨cs', k1, k2, k3, k4⟩ := setCells_heap news w b (o + xs.length * i.size) cs t (0, 0) g1 (by omega)
   have hoth := setCells_other b news (o + xs.length * i.size) w
   have hsz := setCells_size b news (o + xs.length * i.size) w
   have hrest := setCells_rest b news (o + xs.length * i.size) w
   have hkeepR : ∀ vs x, R w (fun b => n ≤ b) vs x → R (w.setCells b (o + xs.length * i.size) news) (fun b => n ≤ b) vs x := fun vs x h =>
    hE.tag.go _ _ _ _ _ _ h (Nat.le_of_eq hsz.symm) (fun b' _ _ hno => hoth b' (fun e => hno cs (e ▸ g1))) (fun _ h _ => h)
   refine ⟨_, _, hrun, ⟨_, c, by rw [List.length_append], by rw [List.length_append]; exact hroom, hcm, .inr ⟨b, o, rfl, hb, by rw [hsz]; exact hzb, fun _ => ⟨cs', k1, by omega⟩, fun q y hq => ?_⟩⟩, setCells_below hb, ⟨hrest.1, hrest.2.1, hrest.2.2, Nat.le_of_eq hsz.symm, fun d _ hd => hoth d (fun e => hd (by rw [e]; rfl))⟩, .inl rfl⟩
   by_cases hqx : q < xs.length
   ·rw [List.getElem?_append_left hqx] at hq
    obtain ⟨vs, r1, r2, r3⟩ := he q y hq
    refine ⟨vs, r1, hkeepR _ _ r2, fun j u hu => ?_⟩
    have hj := (List.getElem?_eq_some_iff.1 hu).1
    have hle : q * i.size + i.size ≤ xs.length * i.size := by rw [← Nat.succ_mul]; exact Nat.mul_le_mul_right _ hqx
    rw [cell_of_heap k1, k3 _ (.inl (by omega)), ← cell_of_heap g1]
    exact r3 j u hu
   ·rw [List.getElem?_append_right (by omega)] at hq
    obtain ⟨vs, r1, r2, r3⟩ := hnew _ y hq
    refine ⟨vs, r1, hkeepR _ _ r2, fun j u hu => ?_⟩
    have := k4 _ u (r3 j u hu)
    rw [cell_of_heap k1, show o + q * i.size + j = o + xs.length * i.size + ((q - xs.length) * i.size + j) by
     have : q * i.size = xs.length * i.size + (q - xs.length) * i.size := by rw [← Nat.add_mul]; congr 1; omega
     omega]
    exact this
 ·-- it grows
  obtain ⟨olds, ho1, ho2⟩ : ∃ olds : List Value, (Builtin.firstCells i.size xs.length (.slice a xs.length c)).run P w.drew = .ok olds.toArray w.drew ∧ NewsR i.size R w (fun b => n ≤ b) olds xs ∧ olds.length = xs.length * i.size := by
   obtain ⟨news', q1, q2⟩ := SliceR.src (P := P) (st := st) hT hE.pos hE.ones (own := true) (w := w) (S := fun b => n ≤ b) (v := .slice a xs.length c) (xs := xs) ⟨a, c, rfl, hc, hcm, hx⟩
   exact ⟨news', q1.cellsD, q2, q1.newsLen⟩
  have hrun := run_append_grow_src (P := P) w st tx ty t i z hT.under hi hz a xs.length c olds ho1 x ys.length news hs (by omega) (by omega) (growslice_fits (by omega) hbytes)
  have hge := grownCap_ge w (xs.length + ys.length) c t
  have hcm' := grownCap_le_maxLen w (xs.length + ys.length) c t (by unfold maxLen; omega)
  generalize hG : grownCap w (xs.length + ys.length) c t = G at *
  refine ⟨_, _, hrun, ⟨_, G, by rw [List.length_append], by rw [List.length_append]; exact hge, hcm', .inr ⟨w.heap.size, 0, rfl, hn, by simp, fun _ => ⟨_, World.alloc_heap_new _ _, ?_⟩, fun q y hq => ?_⟩⟩, ((Below.refl _ _).drew).alloc hn _, ⟨rfl, rfl, rfl, by simp, fun d hd _ => Below.heap_alloc _ _ _ hd⟩, .inr rfl⟩
  ·simp only [Array.size_append, List.size_toArray, List.length_append, size_zeroCells, hzs, ho2.2, hs.newsLen]
   have h9 : (xs.length + ys.length) * i.size + (G - (xs.length + ys.length)) * i.size = G * i.size := by rw [← Nat.add_mul]; congr 1; omega
   rw [Nat.add_mul] at h9
   omega
  ·have hK : Keeps (fun b => n ≤ b) w (w.drew.alloc (.cells ((olds ++ news).toArray ++ Builtin.zeroCells z.cells (G - (xs.length + ys.length))) t)) :=
    Keeps.all (((Below.refl _ _).drew).alloc (Nat.le_refl _) _)
   have hcell : ∀ j u, (olds ++ news)[j]? = some u → (w.drew.alloc (.cells ((olds ++ news).toArray ++ Builtin.zeroCells z.cells (G - (xs.length + ys.length))) t)).cell? ⟨w.heap.size, j, none⟩ = some u := by
    intro j u hu
    have hj := (List.getElem?_eq_some_iff.1 hu).1
    rw [cell_of_heap (w := w.drew.alloc _) (B := w.heap.size) (World.alloc_heap_new w.drew _), Array.getElem?_append_left (by simpa using hj)]
    simpa using hu
   by_cases hqx : q < xs.length
   ·rw [List.getElem?_append_left hqx] at hq
    obtain ⟨vs, r1, r2, r3⟩ := ho2.1 q y hq
    refine ⟨vs, r1, hE.st.go _ _ _ _ _ _ r2 hK (fun _ h _ => h), fun j u hu => ?_⟩
    have h3 := r3 j u hu
    rw [Nat.zero_add]
    exact hcell _ u (by rw [List.getElem?_append_left (List.getElem?_eq_some_iff.1 h3).1]; exact h3)
   ·rw [List.getElem?_append_right (by omega)] at hq
    obtain ⟨vs, r1, r2, r3⟩ := hnew _ y hq
    refine ⟨vs, r1, hE.st.go _ _ _ _ _ _ r2 hK (fun _ h _ => h), fun j u hu => ?_⟩
    have h3 := r3 j u hu
    rw [Nat.zero_add]
    refine hcell _ u ?_
    rw [show q * i.size + j = olds.length + ((q - xs.length) * i.size + j) by
     rw [ho2.2]
     have : q * i.size = xs.length * i.size + (q - xs.length) * i.size := by rw [← Nat.add_mul]; congr 1; omega
     omega, List.getElem?_append_right (by omega)]
    simpa using h3
theorem wpList_append_R {P : Program} (w : World) {ops : Array Oper} {rest : List Oper} {o : Oper} {a : Act} {Q : Exit → Act → World → Prop} (hgd : o.guard = none) (s x : Operand) (st tx : TypeId)
  (ho : o.op = .call { callee := .builtin .append, args := #[s, x], argTypes := #[st, tx] }) {t : TypeId} {k : Nat} (hT : RowT P st t k) {α : Type} {R : Rd α} (hE : Elt t k R) (n : Nat) (v y : Value) {xs ys : List α} {news : List Value} (hs : a.eval s = v) (hx : a.eval x = y)
  (h1 : SliceR t k R true w (fun b => n ≤ b) v xs) (hn : n ≤ w.heap.size) (hsrc : Src P k tx y ys.length news w) (hnew : NewsR k R w (fun b => n ≤ b) news ys) (hlen : xs.length + ys.length ≤ 100000000)
  (h : ∀ v' w', SliceR t k R true w' (fun b => n ≤ b) v' (xs ++ ys) → Below n w w' → w.grownBy w' v.ownBlock → (v'.ownBlock = v.ownBlock ∨ v'.ownBlock = some w.heap.size) → wpList P ops Q rest (a.put o.dst v') w') :
  wpList P ops Q (o :: rest) a w := by
 refine wpList_plain hgd fun K hK => ?_
 obtain ⟨v', w', hr, h2, h3, h4, h5⟩ := append_R (P := P) (ty := o.type) hT hE h1 hn hsrc hnew hlen
 unfold Oper.wp execOp
 simp only [ho, resolve, invoke, builtin, Sem.run_bind, Sem.run_pure, Result.andThen_ok, List.map_toArray, List.map_cons, List.map_nil, hs, hx, hr]
 exact hK _ _ (h v' w' h2 h3 h4 h5)
theorem step_append_R {P : Program} {w : World} {ops : Array Oper} {o : Oper} {a : Act} {K : Act → World → Prop} {Q : Exit → Act → World → Prop} {E : Prop} (hgd : o.guard = none) (s x : Operand) (st tx : TypeId)
  (ho : o.op = .call { callee := .builtin .append, args := #[s, x], argTypes := #[st, tx] }) {t : TypeId} {k : Nat} (hT : RowT P st t k) {α : Type} {R : Rd α} (hE : Elt t k R) (n : Nat) (v y : Value) {xs ys : List α} {news : List Value} (hs : a.eval s = v) (hx : a.eval x = y)
  (h1 : SliceR t k R true w (fun b => n ≤ b) v xs) (hn : n ≤ w.heap.size) (hsrc : Src P k tx y ys.length news w) (hnew : NewsR k R w (fun b => n ≤ b) news ys) (hlen : xs.length + ys.length ≤ 100000000)
  (h : ∀ v' w', SliceR t k R true w' (fun b => n ≤ b) v' (xs ++ ys) → Below n w w' → w.grownBy w' v.ownBlock → (v'.ownBlock = v.ownBlock ∨ v'.ownBlock = some w.heap.size) → K (a.put o.dst v') w') :
  if Region.wanted o (yielded ops a.tmps) = true then Oper.wp P o a w K Q else E := by
 have hw : Region.wanted o (yielded ops a.tmps) = true := by simp [Region.wanted, hgd]
 rw [if_pos hw]
 obtain ⟨v', w', hr, h2, h3, h4, h5⟩ := append_R (P := P) (ty := o.type) hT hE h1 hn hsrc hnew hlen
 unfold Oper.wp execOp
 simp only [ho, resolve, invoke, builtin, Sem.run_bind, Sem.run_pure, Result.andThen_ok, List.map_toArray, List.map_cons, List.map_nil, hs, hx, hr]
 exact h v' w' h2 h3 h4 h5
end Go.Proofs.Qw
namespace Go.Proofs.Qw
open Go.RowKit Go.Proofs.YtjpgffihafknlaaGreatDoor
theorem RowT.zero {P : Program} {st t : TypeId} {k : Nat} (hT : RowT P st t k) {z : Value} (hz : (P.info? t).bind (·.zero) = some z) : ∃ i, P.info? t = some i ∧ i.zero = some z ∧ i.size = k ∧ i.bytes ≤ 256 ∧ z.cells.size = k := by
 obtain ⟨i, z', h1, h2, h3, h4, h5⟩ := hT.info
 rw [h1] at hz
 simp only [Option.bind_some] at hz
 rw [h2] at hz
 cases hz
 exact ⟨i, h1, h2, h3, h4, h5⟩
theorem Keeps.only {S : Nat → Prop} {w w' : World} {b : Nat} (hs : w'.heap.size = w.heap.size) (h : ∀ d, d ≠ b → w'.heap[d]? = w.heap[d]?) (hb : ¬ S b) : Keeps S w w' := ⟨Nat.le_of_eq hs.symm, fun d hd _ => h d (fun e => hb (e ▸ hd))⟩
end Go.Proofs.Qw
namespace Go.Proofs.Qw
open Go.RowKit
section
variable {F : Fence} {n : Nat} {P : Program} {ops : Array Oper} {md : Region.Mode} {C : World → Prop}
def plainOp (o : Oper) : Bool := match o.op with | .defer _ => false | _ => true
theorem plainOp_ne {o : Oper} (h : plainOp o = true) : ∀ c, o.op ≠ .defer c := by
 intro c e
 unfold plainOp at h
 rw [e] at h
 cases h
end
end Go.Proofs.Qw
namespace Go.Proofs.Qw
open Go.RowKit
section
variable {n l : Nat} {P : Program} {ops : Array Oper} {md : Region.Mode}
def EndsIn (R : Act → World → Prop) : Exit → Act → World → Prop
 | .normal, a, w => R a w
 | _, _, _ => False
theorem endsIn_out {R : Act → World → Prop} : ¬ LetsOut (EndsIn R) := fun ⟨_, _, h⟩ => h
theorem wpIn_of_wpR {o : Oper} {a : Act} {K : Act → World → Prop} {R : Act → World → Prop} {Q : Exit → Act → World → Prop} {w : World} (hro : plainOp o = true) (h : o.wp P a w K (EndsIn R)) : o.wpIn (Fence.wide.inRound l) n P a w K Q := by
 refine ⟨fun _ _ => trivial, ?_⟩
 rw [Oper.semAt_eq _ _ _ (plainOp_ne hro)]
 unfold Oper.wp at h
 have hd : ∀ m : Nat, ((Fence.wide.inRound l).depth.isSome = true → 1 ≤ m) := fun _ h => by cases h
 generalize (execOp a.eval o).run P w = r at *
 cases r with
 | ok x w' =>
  cases x <;> simp only [Oper.upon, Oper.uponIn] at h ⊢
  case value u => exact h
  case skip => exact h
  case defer d => exact h
  case enter f args =>
   refine ⟨hd _, CallsIn.inRound l (callsIn_wide.2 (h.mono fun e w'' he => ?_))⟩
   cases e with
   | returned u => exact he
   | panicked c => exact he.elim
   | outgrown => exact (endsIn_out he).elim
  case row row args => exact ⟨hd _, fun c cs _ => let ⟨v, w', r, s⟩ := h c cs; ⟨v, w', r, stepsIn_wide.2 s⟩⟩
 | halt x w' =>
  cases x <;> simp only [Oper.upon, Oper.uponIn] at h ⊢
  case panic u => exact h.elim
theorem wpAnyIn_of_wpAnyR {R : Act → World → Prop} {Q : Exit → Act → World → Prop} (hnd : ∀ (i : Nat) (o : Oper), ops[i]? = some o → plainOp o = true) (hQ : ∀ a w, R a w → Q .normal a w) : ∀ (fuel : Nat) (listed : Array Bool) (a : Act) (w : World),
  wpAny P md ops (EndsIn R) fuel listed a w → wpAnyIn (Fence.wide.inRound l) n P md ops Q fuel listed a w
 | 0, _, _, _, h => ⟨h.1, hQ _ _ h.2⟩
 | fuel + 1, _, _, _, h => ⟨fun h0 => hQ _ _ (h.1 h0), fun i hi => by
   have h2 := h.2 i hi
   unfold wpOp at h2
   unfold wpOpIn
   split
   ·rename_i ho
    simp only [ho] at h2
    exact wpAnyIn_of_wpAnyR hnd hQ fuel _ _ _ h2
   ·rename_i o ho
    simp only [ho] at h2
    split
    ·rename_i hw
     simp only [hw, if_true] at h2
     rcases h2 with h2 | h2
     ·exact Oper.wpIn_mono (fun a' w' h' => wpAnyIn_of_wpAnyR hnd hQ fuel _ _ _ h') (wpIn_of_wpR (hnd _ _ ho) h2)
     ·exact (endsIn_out h2.2).elim
    ·rename_i hw
     simp only [hw] at h2
     exact ⟨fun _ _ => trivial, wpAnyIn_of_wpAnyR hnd hQ fuel _ _ _ h2⟩⟩
end
end Go.Proofs.Qw
namespace Go.Proofs.YtjpgffihafknlaaGreatDoor
open Go.RowKit
open Go.Proofs.Qw
set_option maxHeartbeats 1000000 in
theorem class_any (c : Int) (w : World) :
  Calls Tryz.prog 114 #[.int .i32 c] w fun e w' => e = .returned (.int .i64 (classF c)) ∧ w' = w := by
 go_enter Tryz.func114, Tryz.ntmps114
 go_wp2_with (go_at_call 130; refine (Tryz.utf8_ValidRune c w).mono ?_; rintro e w' ⟨rfl, rfl⟩)
 all_goals
  go_ret
  refine ⟨?_, rfl⟩
  refine congrArg Ending.returned (int_eq ?_)
  simp only [Bool.not_eq_true', Bool.not_eq_false', beq_iff_eq, beq_eq_false_iff_ne] at *
  unfold classF
  (repeat' split) <;> first | rfl | omega | simp_all
set_option maxHeartbeats 400000 in
theorem charMay_any (c : Int) (w : World) :
  Calls Tryz.prog 112 #[.int .i32 c] w fun e w' => e = .returned (.bool (mayR c)) ∧ w' = w := by
 go_enter Tryz.func112, Tryz.ntmps112
 go_wp2_with (go_at_call 114; refine (class_any c w).mono ?_; rintro e w' ⟨rfl, rfl⟩)
 go_ret
 exact ⟨rfl, rfl⟩
end Go.Proofs.YtjpgffihafknlaaGreatDoor
namespace Go.Proofs.YtjpgffihafknlaaGreatDoor
open Go.RowKit
open Go.Proofs.Qw
def EnvT (w : World) : Prop := Env w ∧ Lib.Utf8Tabs 0 1 w
theorem EnvT.below {w w' : World} (h : EnvT w) (hb : Below w.heap.size w w') : EnvT w' := ⟨h.1.below hb, Utf8Tabs_below h.2 hb⟩
theorem runesGo_step {s : ByteArray} {f pos : Nat} (h : pos < s.size) : runesGo s (f + 1) pos = ((Utf8.decode s pos).1 : Int) :: runesGo s f (pos + (Utf8.decode s pos).2) := by rw [runesGo, if_pos h]
theorem runesGo_end {s : ByteArray} {f pos : Nat} (h : ¬ pos < s.size) : runesGo s f pos = [] := by
 cases f with
 | zero => rfl
 | succ f => rw [runesGo, if_neg h]
theorem width_pos (s : ByteArray) (pos : Nat) (h : pos < s.size) : 0 < (Utf8.decode s pos).2 := by
 by_cases ha : (s[pos]'h).toNat < 128
 ·rw [decode_ascii s pos h ha]; exact Nat.le_refl _
 ·exact (decode_high s pos h (by omega)).2
set_option maxHeartbeats 1000000 in
theorem value_any (s : ByteArray) (w : World) (he : EnvT w) (hs : s.size ≤ 1000000) :
  Calls Tryz.prog 142 #[.string s] w fun e w' => e = .returned (.bool (valueB s)) ∧ Below w.heap.size w w' := by
 go_enter Tryz.func142, Tryz.ntmps142
 go_wp2_with fail
 have HV : Hid (∀ b, (runesB s).all mayR = b → valueB s = (b && (decide (s.size ≤ 200) && Lib.validD s.data.toList))) := Lib.hid (fun b h => by rw [← h]; rfl)
 go_loopw [] (fun wr => ∃ (pos fuel : Nat), wr.heap[w.heap.size]? = some (.stringIter s pos) ∧ Below w.heap.size w wr ∧ (runesB s).all mayR = (runesGo s fuel pos).all mayR ∧ s.size ≤ pos + fuel) (fun wr => s.size - wr.iterPos w.heap.size)
 case atStart =>
  refine ⟨0, s.size, ?_, (Below.refl _ w).alloc (Nat.le_refl _) _, rfl, by omega⟩
  exact World.iter_heap w s 0
 case round =>
  obtain ⟨pos, fuel, hit, hbw, hacc, hfu⟩ := hrel
  have hsz : w.heap.size < wr.heap.size := (Array.getElem?_eq_some_iff.1 hit).1
  have HA := Lib.hid hacc
  clear hacc
  by_cases hp : pos < s.size
  ·have hnx : ∀ ty, (Instr.next (.pointer (some ⟨w.heap.size, 0, none⟩)) true ty).run Tryz.prog wr = _ := fun ty => Lib.run_next_any_at wr w.heap.size s pos ty hit hp
   have hwd := width_pos s pos hp
   have hit2 := Lib.iterAt_heap wr w.heap.size s pos (pos + (Utf8.decode s pos).2) hit
   have hbw2 := Lib.below_iterAt hbw (k := w.heap.size) (by omega) s (pos + (Utf8.decode s pos).2)
   obtain ⟨f, rfl⟩ : ∃ f, fuel = f + 1 := ⟨fuel - 1, by omega⟩
   obtain ⟨r, hr⟩ : ∃ r, mayR ((Utf8.decode s pos).1 : Int) = r := ⟨_, rfl⟩
   have HR : Hid ((runesB s).all mayR = (r && (runesGo s f (pos + (Utf8.decode s pos).2)).all mayR)) := Lib.hid (by rw [HA.out, runesGo_step hp, List.all_cons, hr])
   have HC : Hid (∀ W, Calls Tryz.prog 112 #[.int .i32 (Utf8.decode s pos).1] W fun e w' => e = .returned (.bool r) ∧ w' = W) := Lib.hid (fun W => hr ▸ charMay_any _ W)
   clear hr
   go_wp2_with (go_at_call 112; refine (HC.out _).mono ?_; rintro e W1 ⟨rfl, rfl⟩; cases r)
   ·go_ret
    exact ⟨by rw [HV.out _ HR.out]; rfl, hbw2⟩
   ·go_roundw
    case rel => exact ⟨pos + (Utf8.decode s pos).2, f, hit2, hbw2, HR.out, by omega⟩
    case measure =>
     have e1 : wr.iterPos w.heap.size = pos := by unfold World.iterPos; rw [hit]
     have e2 : (wr.iterAt w.heap.size s (pos + (Utf8.decode s pos).2)).iterPos w.heap.size = pos + (Utf8.decode s pos).2 := by unfold World.iterPos; rw [hit2]
     rw [e1, e2]
     omega
  ·have hnx : ∀ ty, (Instr.next (.pointer (some ⟨w.heap.size, 0, none⟩)) true ty).run Tryz.prog wr = _ := fun ty => Lib.run_next_end_at wr w.heap.size s pos ty hit hp
   have HT : Hid (valueB s = (true && (decide (s.size ≤ 200) && Lib.validD s.data.toList))) := Lib.hid (HV.out _ (HA.out.trans (by rw [runesGo_end hp]; rfl)))
   have heW := he.below hbw
   go_wp2_with (go_at_call 164; refine (Tryz.utf8_ValidString s _ (by omega) heW.2).mono ?_; rintro e W1 ⟨rfl, hb1⟩)
   ·go_ret
    refine ⟨?_, hbw.trans (hb1.mono hbw.size)⟩
    rw [HT.out, decide_eq_true (by omega)]
    rfl
   ·go_ret
    refine ⟨?_, hbw⟩
    rw [HT.out, decide_eq_false (by omega)]
    rfl
theorem lowR_any (c : Int) (w : World) (h1 : 0 ≤ c) (h2 : c ≤ 1114111) :
  Calls Tryz.prog 141 #[.int .i32 c] w fun e w' => e = .returned (.int .i32 (lowR c)) ∧ w' = w := by
 unfold lowR
 go_enter Tryz.func141, Tryz.ntmps141
 go_wp2_with fail
 all_goals
  go_ret
  refine ⟨?_, rfl⟩
  refine congrArg Ending.returned (int_eq ?_)
 all_goals first
  | rfl
  | (rw [if_pos ⟨by assumption, by assumption⟩]; rfl)
  | (rw [if_neg (by omega)]; rfl)
theorem byte_head (s : ByteArray) (h : 0 < s.size) : s.data.toList.head? = some s[0] := by
 rw [List.head?_eq_getElem?, Array.getElem?_toList, Array.getElem?_eq_getElem h]; rfl
theorem byte_last (s : ByteArray) (h : 0 < s.size) : s.data.toList.getLast? = some s[s.size - 1] := by
 rw [List.getLast?_eq_getElem?, Array.length_toList, Array.getElem?_toList, Array.getElem?_eq_getElem (by show s.size - 1 < s.size; omega)]; rfl
theorem byte_ne {o : Option UInt8} {b : UInt8} (h : o = some b) : decide (o ≠ some 32) = ((b.toNat : Int) != 32) := by
 subst h
 by_cases e : b = 32
 ·subst e; rfl
 ·have e2 : ¬ (b.toNat : Int) = 32 := fun h => e (UInt8.toNat_inj.1 (by simpa using Int.ofNat.inj h))
  simp [e, e2]
theorem lowR_grows (w : World) : MapGrows Tryz.prog 141 #[] lowR w := fun W x hx _ => (lowR_any (x : Int) W (by omega) (by omega)).mono fun _ _ ⟨h1, h2⟩ => ⟨h1, h2 ▸ Below.refl _ _⟩
theorem lowR_bound : ∀ x : Nat, x ≤ 1114111 → -2147483648 ≤ lowR x ∧ lowR x ≤ 2147483647 := by
 intro x h
 unfold lowR
 split <;> omega
set_option maxHeartbeats 1000000 in
theorem target_any (s : ByteArray) (w : World) (he : EnvT w) (hs : s.size ≤ 1000000) :
  Calls Tryz.prog 125 #[.string s] w fun e w' => e = .returned (.bool (targetF s.data.toList)) ∧ Below w.heap.size w w' := by
 obtain ⟨js, hjs⟩ : ∃ x, Lib.mapD lowR (Lib.cut s.data.toList [58]).1 = x := ⟨_, rfl⟩
 obtain ⟨cut, hcut⟩ : ∃ x, Lib.cut s.data.toList [58] = x := ⟨_, rfl⟩
 obtain ⟨vb, hvb⟩ : ∃ x, valueB s = x := ⟨_, rfl⟩
 have HT : Hid (targetF s.data.toList = (vb && (decide (s.data.toList ≠ []) && (decide (s.data.toList.head? ≠ some 32) && (decide (s.data.toList.getLast? ≠ some 32) && !(js == javascript)))))) := Lib.hid (by
  unfold targetF valueF
  rw [hjs, ← hvb])
 have hcl : cut.1.length ≤ s.size := by
  have hl : s.data.toList.length = s.size := Array.length_toList
  rw [← hcut]
  unfold Lib.cut
  split
  ·simp; omega
  ·simp
 rw [hcut] at hjs
 have HC1 : Hid (∀ W, EnvT W → Calls Tryz.prog 139 #[.string s, .string ⟨#[58]⟩] W fun e w' => e = .returned (.tuple #[.string ⟨cut.1.toArray⟩, .string ⟨cut.2.1.toArray⟩, .bool cut.2.2]) ∧ Below W.heap.size W w') := Lib.hid fun W hW => (Tryz.strings_Cut_shaped s ⟨#[58]⟩ W hW.1 (by omega)).mono fun _ _ ⟨h1, n, h2⟩ => ⟨by rw [h1, ← hcut], h2 ▸ below_drewNm W n⟩
 have HC2 : Hid (∀ W, EnvT W → Calls Tryz.prog 140 #[.func (.func 141) #[] #[], .string ⟨cut.1.toArray⟩] W fun e w' => e = .returned (.string ⟨js.toArray⟩) ∧ Below W.heap.size W w') := Lib.hid fun W hW => by
  have := Tryz.strings_Map_grows 141 #[] (enters_of Tryz.func141 (by kernel_rfl) rfl) lowR ⟨cut.1.toArray⟩ W (by show cut.1.toArray.size < _; simp; omega) (lowR_grows W) lowR_bound hW.2
  rw [← hjs]
  exact this
 have HC3 : Hid (∀ W, EnvT W → Calls Tryz.prog 142 #[.string s] W fun e w' => e = .returned (.bool vb) ∧ Below W.heap.size W w') := Lib.hid fun W hW => hvb ▸ value_any s W hW hs
 clear hjs hcut hvb
 go_enter Tryz.func125, Tryz.ntmps125
 go_wp2_with (go_at_call 139; refine (HC1.out _ he).mono ?_; rintro e w1 ⟨rfl, hb1⟩; have he1 := he.below hb1)
 go_wp2_with (go_at_call 140; refine (HC2.out _ he1).mono ?_; rintro e w2 ⟨rfl, hb2⟩; have he2 := he1.below hb2)
 have hb12 := hb1.trans (hb2.mono hb1.size)
 clear HC1 HC2 hb1 hb2 he he1
 rcases Nat.eq_zero_or_pos s.size with hz | hz
 ·have hnil : s.data.toList = [] := List.length_eq_zero_iff.1 (by rw [Array.length_toList]; exact hz)
  have HF : Hid (targetF s.data.toList = false) := Lib.hid (by rw [HT.out, hnil]; simp)
  have hne2 : s.toList.isEmpty = true := by rw [toList_eq, hnil]; rfl
  have hcon : s.size - 1 < s.size → False := by omega
  clear HT hnil
  go_wp2_with (go_at_call 142; refine (HC3.out _ he2).mono ?_; rintro e w3 ⟨rfl, hb3⟩; cases vb)
  all_goals
   go_ret
   refine ⟨?_, hb12.trans (hb3.mono hb12.size)⟩
   rw [HF.out]
   refine congrArg Ending.returned (congrArg Value.bool ?_)
  all_goals simp_all
 ·have hne : s.data.toList ≠ [] := by
   intro e
   have h2 : s.data.toList.length = s.size := Array.length_toList
   rw [e, List.length_nil] at h2
   omega
  have h0 := byte_ne (byte_head s hz)
  have h1 := byte_ne (byte_last s hz)
  have HN : Hid (targetF s.data.toList = (vb && (((s[0].toNat : Int) != 32) && (((s[s.size - 1].toNat : Int) != 32) && !(js == javascript))))) := Lib.hid (by
   rw [HT.out, h0, h1, decide_eq_true hne, Bool.true_and])
  have hne2 : s.toList.isEmpty = false := by rw [toList_eq]; simpa using hne
  clear h0 h1 HT hne
  unfold javascript at HN
  go_wp2_with (go_at_call 142; refine (HC3.out _ he2).mono ?_; rintro e w3 ⟨rfl, hb3⟩; cases vb)
  all_goals
   go_ret
   refine ⟨?_, hb12.trans (hb3.mono hb12.size)⟩
   rw [HN.out]
  all_goals refine congrArg Ending.returned (congrArg Value.bool ?_)
  all_goals first | (simp_all; done) | (rw [Bool.true_and, Bool.and_assoc]) | (simp_all [Bool.and_assoc])
end Go.Proofs.YtjpgffihafknlaaGreatDoor
namespace Go.Proofs.YtjpgffihafknlaaGreatDoor
open Go.RowKit
open Go.Proofs.Qw
theorem rowInt : RowT Tryz.prog 34 3 1 := RowT.mk' (y := 8) Tryz.underlying34 (by kernel_rfl) (by decide) (z := .int .i64 0) (by decide)
theorem rowCell : RowT Tryz.prog 35 66 3 := RowT.mk' (y := 32) Tryz.underlying35 (by kernel_rfl) (by decide) (z := .agg #[.int .i32 0, .int .i64 0, .string ⟨#[]⟩]) (by rfl)
theorem rowLine : RowT Tryz.prog 29 37 4 := RowT.mk' (y := 64) Tryz.underlying29 (by kernel_rfl) (by decide) (z := .agg #[.int .i64 0, .slice none 0 0, .int .i64 0, .slice none 0 0]) (by rfl)
theorem eltInt : Elt 3 1 (rdOf encInt) := elt_of _ (by decide) (fun _ => rfl) (fun x u hu => by simp [encInt] at hu; subst hu; rfl)
theorem eltCell : Elt 66 3 (rdOf encCel) := elt_of _ (by decide) (fun _ => rfl) (fun x u hu => by simp [encCel] at hu; rcases hu with rfl | rfl | rfl <;> rfl)
theorem srcInt {own : Bool} {w : World} {S : Nat → Prop} {v : Value} {xs : List Int} (h : SliceR 3 1 (rdOf encInt) own w S v xs) :
  ∃ news : List Value, Src Tryz.prog 1 34 v xs.length news w ∧ NewsR 1 (rdOf encInt) w S news xs := SliceR.src rowInt eltInt.pos eltInt.ones h
set_option maxRecDepth 100000 in
set_option maxHeartbeats 1000000 in
theorem cloneInt_any (v : Value) (d : List Int) (own : Bool) (w w0 : World) (S : Nat → Prop) (h : SliceR 3 1 (rdOf encInt) own w0 S v d) (h0 : Below w0.heap.size w0 w) (hs : d.length ≤ 1000000) :
  Calls Tryz.prog 62 #[v] w fun e w' => ∃ v', e = .returned v' ∧ SliceR 3 1 (rdOf encInt) true w' (fun b => w.heap.size ≤ b) v' d ∧ Below w.heap.size w w' := by
 have hw : SliceR 3 1 (rdOf encInt) own (w.alloc (.cells #[] 3)) S v d := SliceR.below (rdOf_stable _) h (below_from h0 ((Below.refl _ _).alloc (Nat.le_refl _) _))
 obtain ⟨news, H1, H2⟩ := srcInt hw
 have HS := Lib.hid H1
 have HN := Lib.hid H2
 clear H1 H2
 obtain ⟨a, c, rfl, hc, hm, hx⟩ := hw
 cases a with
 | none =>
  have hd : d = [] := by
   rcases hx with hx | ⟨_, _, e, _⟩
   ·exact hx.1
   ·cases e
  have HD := Lib.hid hd
  have hq := Lib.run_eql_slice_nil (P := Tryz.prog) w 34 3 none d.length c 0 0 Tryz.underlying34
  clear hx h hd
  generalize d.length = n at *
  go_enter Tryz.func62, Tryz.ntmps62
  go_wp2_with fail
  go_ret
  rw [HD.out]
  exact ⟨_, rfl, SliceR.nil _ _ _ _ _ _, Below.refl _ _⟩
 | some a =>
  have hq := Lib.run_eql_slice_nil (P := Tryz.prog) w 34 3 (some a) d.length c 0 0 Tryz.underlying34
  clear hx h
  generalize hn : d.length = n at *
  have HL := Lib.hid hn
  clear hn
  go_enter Tryz.func62, Tryz.ntmps62
  go_wp2_with (at_builtin; refine wpList_append_R _ rfl _ _ 34 34 rfl rowInt eltInt w.heap.size _ _ (xs := []) (ys := d) (news := news) rfl rfl (SliceR.empty _ _ _ _ _ _ _) (by simp) (HL.out ▸ HS.out) HN.out (by have := HL.out; simp; omega) ?_; intro v' w1 hR hB _ _; have HR := Lib.hid hR; have HB := Lib.hid hB; clear hR hB)
  go_ret
  exact ⟨_, rfl, HR.out, ((Below.refl _ _).alloc (Nat.le_refl _) _).trans HB.out⟩
end Go.Proofs.YtjpgffihafknlaaGreatDoor
namespace Go.Proofs.YtjpgffihafknlaaGreatDoor
open Go.RowKit
open Go.Proofs.Qw
attribute [local go_sem ↓] Go.wp_at_zero Go.wp_at_succ
abbrev linV (l : Lin) (a b : Value) : Value := .agg #[.int .i64 l.quote, a, .int .i64 l.kind, b]
end Go.Proofs.YtjpgffihafknlaaGreatDoor
namespace Go.Proofs.Qw
open Go.RowKit Go.Proofs.YtjpgffihafknlaaGreatDoor
def Shp (w wr : World) : Prop := ∀ (b : Nat) (cs : Array Value) (t : TypeId), w.heap[b]? = some (.cells cs t) → ∃ cs' : Array Value, wr.heap[b]? = some (.cells cs' t) ∧ cs'.size = cs.size ∧ (t = 37 → ∀ (j : Nat) (a : Option Addr) (n c : Nat), cs[j]? = some (.slice a n c) → cs'[j]? = some (.slice a n c))
theorem Shp.refl (w : World) : Shp w w := fun _ cs _ h => ⟨cs, h, rfl, fun _ _ _ _ _ h => h⟩
theorem Shp.set {w wr : World} (h : Shp w wr) {B off : Nat} {cs : Array Value} {t : TypeId} (hB : w.heap[B]? = some (.cells cs t)) (ht : t = 37 → ∃ k z, cs[off]? = some (.int k z)) (v : Value) : Shp w (wr.setCell ⟨B, off, none⟩ v) := by
 intro b cs2 t2 h2
 obtain ⟨cs', g1, g2, g3⟩ := h b cs2 t2 h2
 by_cases e : B = b
 ·subst e
  rw [hB] at h2
  cases h2
  refine ⟨cs'.setIfInBounds off v, by rw [heap_set, if_pos rfl, g1]; rfl, by simpa using g2, fun e j a n c hj => ?_⟩
  obtain ⟨k, z, hz⟩ := ht e
  have hne : off ≠ j := fun e2 => by subst e2; rw [hz] at hj; cases hj
  rw [Array.getElem?_setIfInBounds, if_neg hne]
  exact g3 e j a n c hj
 ·exact ⟨cs', by rw [heap_set, if_neg e]; exact g1, g2, g3⟩
theorem Shp.at {w wr : World} (h : Shp w wr) {B off : Nat} {cs : Array Value} {t : TypeId} (hB : w.heap[B]? = some (.cells cs t)) (ho : off < cs.size) : (∃ u, wr.cell? ⟨B, off, none⟩ = some u) ∧ wr.frozen? ⟨B, off, none⟩ = false := by
 obtain ⟨cs', g1, g2, _⟩ := h B cs t hB
 refine ⟨⟨cs'[off], ?_⟩, frozen_of_heap g1⟩
 rw [cell_of_heap g1, Array.getElem?_eq_getElem (by omega)]
theorem Shp.slice {w wr : World} (h : Shp w wr) {B off : Nat} {cs : Array Value} (hB : w.heap[B]? = some (.cells cs 37)) {a : Option Addr} {n c : Nat} (ho : cs[off]? = some (.slice a n c)) : wr.cell? ⟨B, off, none⟩ = some (.slice a n c) := by
 obtain ⟨cs', g1, _, g3⟩ := h B cs _ hB
 rw [cell_of_heap g1]
 exact g3 rfl off a n c ho
end Go.Proofs.Qw
namespace Go.Proofs.Qw
open Go.RowKit Go.Proofs.YtjpgffihafknlaaGreatDoor
theorem encode_eq (r : Int) : (Utf8.encode r).data.toList = Lib.encodeRune r := by
 unfold Utf8.encode Lib.encodeRune Utf8.valid
 by_cases h0 : 0 ≤ r
 ·obtain ⟨n, rfl⟩ := Int.eq_ofNat_of_zero_le h0
  simp only [Int.toNat_natCast]
  by_cases hv : (n < 0xD800 ∨ (0xE000 ≤ n ∧ n ≤ 0x10FFFF))
  ·have hv' : ((decide ((0 : Int) ≤ (n : Int)) && decide ((n : Int) < 0xD800)) || (decide ((0xE000 : Int) ≤ (n : Int)) && decide ((n : Int) ≤ 0x10FFFF))) = true := by
    rcases hv with h | h
    ·simp; omega
    ·simp; omega
   rw [hv']
   simp only [if_true]
   by_cases h1 : n < 0x80
   ·rw [if_pos h1, Lib.encodeRuneZ_one (by omega) (by omega)]; simp
   ·rw [if_neg h1]
    by_cases h2 : n < 0x800
    ·rw [if_pos h2, Lib.encodeRuneZ_two (by omega) (by omega)]; simp only [List.map_cons, List.map_nil]; rw [show (192 + (n : Int) / 64).toNat = 192 + n / 64 by omega, show (128 + (n : Int) % 64).toNat = 128 + n % 64 by omega]
    ·rw [if_neg h2]
     by_cases h3 : n < 0x10000
     ·rw [if_pos h3, Lib.encodeRuneZ_three (by omega)]; simp only [List.map_cons, List.map_nil]; rw [show (224 + (n : Int) / 4096).toNat = 224 + n / 4096 by omega, show (128 + (n : Int) / 64 % 64).toNat = 128 + n / 64 % 64 by omega, show (128 + (n : Int) % 64).toNat = 128 + n % 64 by omega]
     ·rw [if_neg h3, Lib.encodeRuneZ_four (by omega) (by omega)]; simp only [List.map_cons, List.map_nil]; rw [show (240 + (n : Int) / 262144).toNat = 240 + n / 262144 by omega, show (128 + (n : Int) / 4096 % 64).toNat = 128 + n / 4096 % 64 by omega, show (128 + (n : Int) / 64 % 64).toNat = 128 + n / 64 % 64 by omega, show (128 + (n : Int) % 64).toNat = 128 + n % 64 by omega]
  ·have hv' : ((decide ((0 : Int) ≤ (n : Int)) && decide ((n : Int) < 0xD800)) || (decide ((0xE000 : Int) ≤ (n : Int)) && decide ((n : Int) ≤ 0x10FFFF))) = false := by
    simp; omega
   have e : Lib.encodeRuneZ (n : Int) = [239, 191, 189] := by
    unfold Lib.encodeRuneZ
    rw [if_neg (by omega), if_neg (by omega), if_neg (by omega), if_neg (by omega)]
   rw [hv', e]
   simp only [Bool.false_eq_true, if_false]
   decide
 ·have hv' : ((decide ((0 : Int) ≤ r) && decide (r < 0xD800)) || (decide ((0xE000 : Int) ≤ r) && decide (r ≤ 0x10FFFF))) = false := by
   simp; omega
  have e : Lib.encodeRuneZ r = [239, 191, 189] := by
   unfold Lib.encodeRuneZ
   rw [if_neg (by omega), if_neg (by omega), if_neg (by omega), if_neg (by omega)]
  rw [hv', e]
  simp only [Bool.false_eq_true, if_false]
  decide
theorem foldl_bytes (ns : List Int) : ∀ s : ByteArray, (ns.foldl (fun r n => r ++ Utf8.encode n) s).data.toList = s.data.toList ++ ns.flatMap Lib.encodeRune := by
 induction ns with
 | nil => intro s; simp
 | cons n ns ih =>
  intro s
  rw [List.foldl_cons, ih, ByteArray.data_append, Array.toList_append, encode_eq, List.flatMap_cons, List.append_assoc]
theorem runesBytes_eq (ns : List Int) : (runesBytes ns).data.toList = ns.flatMap Lib.encodeRune := by
 unfold runesBytes
 rw [foldl_bytes]
 rfl
def runesL : Nat → List UInt8 → List Int
 | 0, _ => []
 | f + 1, l => if l = [] then [] else ((Lib.decodeL l).1 : Int) :: runesL f (l.drop (Lib.decodeL l).2)
theorem get_drop (s : ByteArray) (pos k : Nat) : (⟨(s.data.toList.drop pos).toArray⟩ : ByteArray).get! k = s.get! (pos + k) := by
 show ((s.data.toList.drop pos).toArray)[k]! = s.data[pos + k]!
 simp [Array.getElem!_eq_getD, Array.getD_eq_getD_getElem?]
theorem decode_drop (s : ByteArray) (pos : Nat) (h : pos < s.size) : Utf8.decode s pos = Lib.decodeL (s.data.toList.drop pos) := by
 unfold Lib.decodeL Utf8.decode
 simp only [get_drop, Nat.zero_add]
 have e : ∀ k, decide (k < (⟨(s.data.toList.drop pos).toArray⟩ : ByteArray).size) = decide (pos + k < s.size) := fun k => by
  rw [decide_eq_decide]
  show k < ((s.data.toList.drop pos).toArray).size ↔ _
  simp
  have hz : s.size = s.data.size := rfl
  omega
 simp only [e]
theorem runesGo_eq (s : ByteArray) : ∀ (f pos : Nat), runesGo s f pos = runesL f (s.data.toList.drop pos)
 | 0, _ => rfl
 | f + 1, pos => by
  by_cases h : pos < s.size
  ·have hne : s.data.toList.drop pos ≠ [] := by
    intro e
    have := List.drop_eq_nil_iff.1 e
    rw [Array.length_toList] at this
    exact absurd h (Nat.not_lt.2 this)
   rw [runesGo_step h, runesL, if_neg hne, runesGo_eq s f, decode_drop s pos h, List.drop_drop]
  ·rw [runesGo_end h, runesL, if_pos (List.drop_eq_nil_iff.2 (by rw [Array.length_toList]; exact Nat.not_lt.1 h))]
theorem runesL_back : ∀ (f : Nat) (l : List UInt8), l.length ≤ f → ((runesL f l).flatMap Lib.encodeRune = l ↔ Lib.validGoD f l = true) ∧ l.length ≤ ((runesL f l).flatMap Lib.encodeRune).length
 | 0, l, h => by
  have : l = [] := List.length_eq_zero_iff.1 (by omega)
  subst this
  simp [runesL, Lib.validGoD]
 | f + 1, l, h => by
  by_cases hl : l = []
  ·subst hl
   simp [runesL, Lib.validGoD]
  ·have hw := Lib.decodeL_width l
   have hle := Lib.decodeL_le l hl
   obtain ⟨ih1, ih2⟩ := runesL_back f (l.drop (Lib.decodeL l).2) (by rw [List.length_drop]; omega)
   rw [runesL, if_neg hl, Lib.validGoD, if_neg hl, List.flatMap_cons]
   by_cases hv : (Lib.decodeL l).1 = 65533 ∧ (Lib.decodeL l).2 = 1
   ·rw [if_pos hv, hv.1]
    rw [hv.2] at ih2 ⊢
    have h3 : (Lib.encodeRune ((65533 : Nat) : Int)).length = 3 := by decide
    rw [List.length_drop] at ih2
    refine ⟨⟨fun e => ?_, fun e => (by cases e)⟩, by rw [List.length_append, h3]; omega⟩
    have e2 := congrArg List.length e
    rw [List.length_append, h3] at e2
    omega
   ·rw [if_neg hv, Lib.encode_decode l hl hv]
    constructor
    ·rw [← ih1]
     constructor
     ·intro e
      conv at e => rhs; rw [← List.take_append_drop (Lib.decodeL l).2 l]
      exact List.append_cancel_left e
     ·intro e
      rw [e, List.take_append_drop]
    ·rw [List.length_append, List.length_take]
     rw [List.length_drop] at ih2
     omega
theorem runesB_back (s : ByteArray) : (runesB s).flatMap Lib.encodeRune = s.data.toList ↔ Lib.validD s.data.toList = true := by
 unfold runesB Lib.validD
 rw [runesGo_eq, List.drop_zero]
 have hs : s.size = s.data.toList.length := by rw [Array.length_toList]; rfl
 rw [hs]
 exact (runesL_back _ _ (Nat.le_refl _)).1
theorem runesFrom_eq (s : ByteArray) : ∀ (f pos : Nat) (acc : Array Value), Conv.runesFrom s f pos acc = acc ++ ((runesGo s f pos).map (Value.int .i32)).toArray
 | 0, _, acc => by simp [Conv.runesFrom, runesGo]
 | f + 1, pos, acc => by
  by_cases h : pos < s.size
  ·rw [Conv.runesFrom, runesGo, if_pos h, if_pos h]
   show Conv.runesFrom s f (pos + (Utf8.decode s pos).2) (acc.push (.int .i32 (Int.ofNat (Utf8.decode s pos).1))) = _
   rw [runesFrom_eq s f]
   simp
  ·rw [Conv.runesFrom, runesGo, if_neg h, if_neg h]
   simp
end Go.Proofs.Qw
namespace Go.Proofs.YtjpgffihafknlaaGreatDoor
open Go.RowKit
open Go.Proofs.Qw
set_option maxHeartbeats 2000000 in
theorem refClass_any (c : Int) (w : World) :
  Calls Tryz.prog 131 #[.int .i32 c] w fun e w' => e = .returned (.int .i64 (classF c)) ∧ w' = w := by
 go_enter Tryz.func131, Tryz.ntmps131
 go_wp2_with fail
 all_goals
  go_ret
  refine ⟨?_, rfl⟩
  refine congrArg Ending.returned (int_eq ?_)
  (try simp only [beq_iff_eq, beq_eq_false_iff_ne, bne_iff_ne, bne_eq_false_iff_eq, ne_eq] at *)
  unfold classF Lib.validRune
  simp only [decide_eq_false_iff_not]
  (repeat' split) <;> first | rfl | omega | (simp_all; done) | (simp_all; omega)
theorem refCharMay_any (c : Int) (w : World) :
  Calls Tryz.prog 115 #[.int .i32 c] w fun e w' => e = .returned (.bool (mayR c)) ∧ w' = w := by
 go_enter Tryz.func115, Tryz.ntmps115
 go_wp2_with (go_at_call 131; refine (refClass_any c w).mono ?_; rintro e w' ⟨rfl, rfl⟩)
 go_ret
 exact ⟨rfl, rfl⟩
abbrev RunesR := SliceR 21 1 (rdOf encRune)
theorem refRunes_any (s : ByteArray) (w : World) (hs : s.size ≤ 10000000) :
  Calls Tryz.prog 68 #[.string s] w fun e w' => ∃ v, e = .returned v ∧ RunesR true w' (fun b => w.heap.size ≤ b) v (runesB s) ∧ Below w.heap.size w w' := by
 have hz := size_runesFrom s s.size 0 #[]
 have hr := run_runes_of_string w 9 90 21 s Tryz.underlying9 Tryz.underlying90 Tryz.underlying21 (by simp at hz; omega)
 have hge := grownCap_ge w (Conv.runesFrom s s.size 0 #[]).size 0 21
 have hle := grownCap_le_maxLen w (Conv.runesFrom s s.size 0 #[]).size 0 21 (by unfold maxLen; simp at hz; omega)
 have he : Conv.runesFrom s s.size 0 #[] = ((runesB s).map (Value.int .i32)).toArray := by rw [runesFrom_eq]; simp [runesB]
 rw [he] at hr hge hle
 generalize hG : grownCap w (((runesB s).map (Value.int .i32)).toArray).size 0 21 = G at *
 simp only [List.size_toArray, List.length_map] at hr hge hle
 have HG := Lib.hid (And.intro hge hle)
 clear hz he hge hle hG
 go_enter Tryz.func68, Tryz.ntmps68
 go_wp2_with fail
 go_ret
 refine ⟨_, rfl, ⟨_, G, rfl, HG.out.1, HG.out.2, .inr ⟨w.heap.size, 0, rfl, Nat.le_refl _, by simp, fun _ => ⟨_, heap_new _ _ rfl, ?_⟩, fun i x hx => ⟨_, rfl, rfl, fun j u hu => ?_⟩⟩⟩, by (repeat' (first | (with_reducible exact Below.refl _ _) | (with_reducible assumption) | (with_reducible refine Below.alloc ?_ ?_ _) | (with_reducible refine Below.drew ?_) | (with_reducible refine drewN_below ?_) | (with_reducible refine Below.setCell ?_ ?_ _) | go_size))⟩
 ·have := HG.out.1
  simp
  omega
 ·have hi := (List.getElem?_eq_some_iff.1 hx).1
  have hj : j = 0 := by
   have := (List.getElem?_eq_some_iff.1 hu).1
   simp [encRune] at this
   omega
  subst hj
  cases hu
  rw [World.cell?_drew, cell_of_heap (heap_new _ _ rfl)]
  rw [Array.getElem?_append_left (by simp; omega)]
  simp [hx]
end Go.Proofs.YtjpgffihafknlaaGreatDoor
namespace Go.Proofs.YtjpgffihafknlaaGreatDoor
open Go.RowKit
open Go.Proofs.Qw
theorem valueB_eq (s : ByteArray) : valueB s = (decide (s.size ≤ 200) && (((runesBytes (runesB s)).toList == s.toList) && (runesB s).all mayR)) := by
 have h : ((runesBytes (runesB s)).toList == s.toList) = Lib.validD s.data.toList := by
  rw [toList_eq, toList_eq, runesBytes_eq, Bool.eq_iff_iff, beq_iff_eq]
  exact runesB_back s
 rw [h]
 unfold valueB
 cases (runesB s).all mayR <;> cases decide (s.size ≤ 200) <;> cases Lib.validD s.data.toList <;> rfl
theorem runes_shape {own : Bool} {w : World} {S : Nat → Prop} {v : Value} {d : List Int} (h : RunesR own w S v d) :
  ∃ a c, v = .slice a d.length c ∧ d.length ≤ c ∧ c ≤ maxLen ∧ ∀ i l, d[i]? = some l → ∃ b o, a = some ⟨b, o, none⟩ ∧ b < w.heap.size ∧ w.cell? ⟨b, o + i, none⟩ = some (.int .i32 l) := by
 obtain ⟨a, c, rfl, hc, hm, hx⟩ := h.shape
 refine ⟨a, c, rfl, hc, hm, fun i l hl => ?_⟩
 obtain ⟨b, o, vs, rfl, hz, _, _, e, he⟩ := hx i l hl
 cases e
 have := he 0 _ rfl
 rw [Nat.mul_one] at this
 exact ⟨b, o, rfl, hz, this⟩
theorem string_runes {own : Bool} {w : World} {S : Nat → Prop} {v : Value} {d : List Int} (h : RunesR own w S v d) : (convert 90 9 v).run Tryz.prog w = .ok (.string (runesBytes d)) w := by
 obtain ⟨a, c, rfl, hc, hm, hx⟩ := runes_shape h
 cases a with
 | none =>
  have hd : d = [] := by
   cases d with
   | nil => rfl
   | cons x l => obtain ⟨_, _, e, _⟩ := hx 0 x rfl; cases e
  subst hd
  rw [run_convert_runes_nil w 90 9 21 _ _ Tryz.underlying90 Tryz.underlying21 Tryz.underlying9]
  rfl
 | some a =>
  rw [run_convert_runes w 90 9 21 a d.length c d (Nat.le_refl _) Tryz.underlying90 Tryz.underlying21 Tryz.underlying9 (fun j hj => by
   obtain ⟨b, o, e, _, h2⟩ := hx j d[j] (List.getElem?_eq_getElem hj)
   cases e
   rw [show (⟨b, o, none⟩ : Addr).add j = ⟨b, o + j, none⟩ by unfold Addr.add; split <;> simp_all]
   rw [h2]
   simp [List.getD, hj])]
  rw [List.take_length]
theorem all_take {α : Type} {f : α → Bool} {l : List α} {k : Nat} {x : α} (hx : l[k]? = some x) (h : (l.take k).all f = true) (hf : f x = true) : (l.take (k + 1)).all f = true := by
 rw [take_some hx, List.all_append, h]; simp [hf]
theorem all_no {α : Type} {f : α → Bool} {l : List α} {k : Nat} {x : α} (hx : l[k]? = some x) (hf : f x = false) : l.all f = false := by
 rw [List.all_eq_false]
 exact ⟨x, List.mem_of_getElem? hx, by simp [hf]⟩
set_option maxRecDepth 100000 in
set_option maxHeartbeats 2000000 in
theorem refValue_any (s : ByteArray) (w : World) (hs : s.size ≤ 1000000) :
  Calls Tryz.prog 144 #[.string s] w fun e w' => e = .returned (.bool (valueB s)) ∧ Below w.heap.size w w' := by
 have HC := Lib.hid (refRunes_any s w (by omega))
 have HV := Lib.hid (valueB_eq s)
 have hln : (runesB s).length ≤ 1000000 := by
  have hz := size_runesFrom s s.size 0 #[]
  rw [runesFrom_eq] at hz
  simp at hz
  unfold runesB
  omega
 have hcs : (200 < s.size ∧ valueB s = false) ∨ (s.size ≤ 200 ∧ ((runesBytes (runesB s)).toList == s.toList) = false ∧ valueB s = false) ∨ (s.size ≤ 200 ∧ ((runesBytes (runesB s)).toList == s.toList) = true ∧ valueB s = (runesB s).all mayR) := by
  rw [HV.out]
  by_cases h1 : s.size ≤ 200
  ·cases h2 : ((runesBytes (runesB s)).toList == s.toList) <;> simp [h1]
  ·simp [h1]; omega
 obtain ⟨t, ht⟩ : ∃ t, runesBytes (runesB s) = t := ⟨_, rfl⟩
 rw [ht] at hcs
 have HT := Lib.hid ht
 clear ht
 go_enter Tryz.func144, Tryz.ntmps144
 rcases hcs with ⟨h1, hv⟩ | ⟨h1, h2, hv⟩ | ⟨h1, h2, hv⟩
 ·have HR := Lib.hid hv
  clear hv
  go_wp2_with (go_at_call 68; refine HC.out.mono ?_; rintro e w2 ⟨v2, rfl, hv2, hb2⟩; have hcv := string_runes hv2; rw [HT.out] at hcv; obtain ⟨a2, c2, rfl, hc2, hm2, hx2⟩ := runes_shape hv2; have HX := Lib.hid hx2; clear hx2 hv2; unfold maxLen at hm2)
  go_ret
  rw [HR.out]
  exact ⟨rfl, hb2⟩
 ·have HR := Lib.hid hv
  clear hv
  go_wp2_with (go_at_call 68; refine HC.out.mono ?_; rintro e w2 ⟨v2, rfl, hv2, hb2⟩; have hcv := string_runes hv2; rw [HT.out] at hcv; obtain ⟨a2, c2, rfl, hc2, hm2, hx2⟩ := runes_shape hv2; have HX := Lib.hid hx2; clear hx2 hv2; unfold maxLen at hm2)
  go_ret
  rw [HR.out]
  exact ⟨rfl, hb2⟩
 ·have HR := Lib.hid hv
  clear hv
  go_wp2_with (go_at_call 68; refine HC.out.mono ?_; rintro e w2 ⟨v2, rfl, hv2, hb2⟩; have hcv := string_runes hv2; rw [HT.out] at hcv; obtain ⟨a2, c2, rfl, hc2, hm2, hx2⟩ := runes_shape hv2; have HX := Lib.hid hx2; clear hx2 hv2; unfold maxLen at hm2)
  go_loopw [4] (fun i wr => ∃ k : Nat, k ≤ (runesB s).length ∧ i = .int .i64 k ∧ Hid (((runesB s).take k).all mayR = true) ∧ wr = w2) (fun i _ => (runesB s).length - (intOf i).toNat)
  case atStart => exact ⟨0, Nat.zero_le _, rfl, Lib.hid rfl, rfl⟩
  case round =>
   obtain ⟨k, hk, rfl, HA, rfl⟩ := hrel
   by_cases hlt : k < (runesB s).length
   ·obtain ⟨x, hx, _⟩ := getOf (runesB s) k hlt
    obtain ⟨b, o, rfl, hz, c0⟩ := HX.out k x hx
    have HX2 := Lib.hid hx
    have HM : Hid (∀ W, Calls Tryz.prog 115 #[.int .i32 x] W fun e w' => e = .returned (.bool (mayR x)) ∧ w' = W) := Lib.hid fun W => refCharMay_any x W
    clear hx
    cases hm : mayR x
    ·rw [hm] at HM
     have HF := Lib.hid (all_no HX2.out hm)
     clear hm
     go_wp2_with (go_at_call 115; refine (HM.out _).mono ?_; rintro e w3 ⟨rfl, rfl⟩)
     go_ret
     rw [HR.out, HF.out]
     exact ⟨rfl, hb2⟩
    ·rw [hm] at HM
     have HF := Lib.hid (all_take HX2.out HA.out hm)
     clear hm
     go_wp2_with (go_at_call 115; refine (HM.out _).mono ?_; rintro e w3 ⟨rfl, rfl⟩)
     go_roundw
     case rel => exact ⟨k + 1, hlt, by go_num, HF, by first | rfl | trivial⟩
     case measure => simp [intOf]; omega
   ·obtain rfl : k = (runesB s).length := by omega
    have HF : Hid ((runesB s).all mayR = true) := Lib.hid (by have := HA.out; rwa [List.take_length] at this)
    go_wp2_with fail
    go_ret
    rw [HR.out, HF.out]
    exact ⟨rfl, hb2⟩
end Go.Proofs.YtjpgffihafknlaaGreatDoor
namespace Go.Proofs.YtjpgffihafknlaaGreatDoor
open Go.RowKit
open Go.Proofs.Qw
theorem sizeD_step {d : Doc} {k : Nat} {l : Lin} (h : d[k]? = some l) : sizeD (d.take (k + 1)) = sizeD (d.take k) + l.cells.length := by
 unfold sizeD
 rw [List.take_add_one, h]
 simp
theorem sizeD_le (d : Doc) (k : Nat) : sizeD (d.take k) ≤ sizeD d := by
 conv => rhs; rw [← List.take_append_drop k d]
 unfold sizeD
 rw [List.map_append, List.sum_append]
 omega
theorem cells_le {d : Doc} {k : Nat} {l : Lin} (h : d[k]? = some l) : l.cells.length ≤ sizeD d := by
 have := sizeD_step h
 have := sizeD_le d (k + 1)
 omega
set_option maxHeartbeats 1000000 in
theorem size_any (v : Value) (d : Doc) (w w0 : World) (S : Nat → Prop) (h : LinsR w0 S v d) (h0 : Below w0.heap.size w0 w) (hs : sizeD d ≤ 100000) :
  Calls Tryz.prog 24 #[v] w fun e w' => e = .returned (.int .i64 (sizeD d)) ∧ Below w.heap.size w w' := by
 obtain ⟨a, c, rfl, hc, hm, hx⟩ := lins_shape h
 have HX := Lib.hid hx
 clear hx h
 unfold maxLen at hm
 go_enter Tryz.func24, Tryz.ntmps24
 go_wp2_with fail
 go_loopw [3, 8] (fun n i wr => ∃ k : Nat, k ≤ d.length ∧ i = .int .i64 k ∧ n = .int .i64 (sizeD (d.take k)) ∧ Below w.heap.size w wr) (fun _ i _ => d.length - (intOf i).toNat)
 case atStart => exact ⟨0, Nat.zero_le _, rfl, rfl, Below.refl _ _⟩
 case round =>
  obtain ⟨k, hk, rfl, rfl, hb⟩ := hrel
  by_cases hlt : k < d.length
  ·obtain ⟨l, hl, hd⟩ := getOf d k hlt
   obtain ⟨b, o, la, lc, ca, cc, rfl, hA⟩ := HX.out k l hl
   obtain ⟨_, c0, c1, c2, c3, _, _⟩ := hA.below (below_from h0 hb)
   have e1 := sizeD_step hl
   have e2 := sizeD_le d (k + 1)
   have HE := Lib.hid e1
   have hle : sizeD (d.take k) + l.cells.length ≤ 100000 := by omega
   clear hA hd hl e1 e2
   go_wp2_with fail
   go_roundw
   case rel =>
    refine ⟨k + 1, hlt, by go_num, ?_, hb.alloc hb.size _⟩
    rw [HE.out]
    go_num
   case measure => simp [intOf]; omega
  ·obtain rfl : k = d.length := by omega
   have HT : Hid (d.take d.length = d) := Lib.hid (List.take_length ..)
   have HB := Lib.hid hb
   clear hb
   go_wp2_with fail
   go_ret
   rw [HT.out]
   exact ⟨rfl, HB.out⟩
def posV (p : Ps) : Value := .agg #[.int .i64 p.line, .int .i64 p.col]
theorem isD_at {d : Doc} {i : Nat} {j : Int} {l : Lin} (h : d[i]? = some l) : isD d ⟨i, j⟩ = (decide (0 ≤ j) && decide (j ≤ l.cells.length)) := by
 have hi := (List.getElem?_eq_some_iff.1 h).1
 unfold isD
 have e : d.getD i default = l := by simp [List.getD, h]
 simp [hi]
 rw [show d[i] = l by simpa [h] using (List.getElem?_eq_getElem hi).symm]
theorem isD_off {d : Doc} {i j : Int} (h : ¬ (0 ≤ i ∧ i < d.length)) : isD d ⟨i, j⟩ = false := by
 unfold isD
 by_cases h0 : 0 ≤ i
 ·rw [decide_eq_false (p := i < d.length) (by omega)]; simp
 ·rw [decide_eq_false h0]; simp
set_option maxHeartbeats 1000000 in
theorem is_any (v : Value) (d : Doc) (p : Ps) (w w0 : World) (S : Nat → Prop) (h : LinsR w0 S v d) (h0 : Below w0.heap.size w0 w) :
  Calls Tryz.prog 26 #[v, posV p] w fun e w' => e = .returned (.bool (isD d p)) ∧ Below w.heap.size w w' := by
 obtain ⟨a, c, rfl, hc, hm, hx⟩ := lins_shape h
 have HX := Lib.hid hx
 clear hx h
 unfold maxLen at hm
 obtain ⟨i, j⟩ := p
 unfold posV
 go_enter Tryz.func26, Tryz.ntmps26
 by_cases hi : 0 ≤ i ∧ i < d.length
 ·obtain ⟨i, rfl⟩ := Int.eq_ofNat_of_zero_le hi.1
  obtain ⟨l, hl, hd⟩ := getOf d i (by omega)
  obtain ⟨b, o, la, lc, ca, cc, rfl, hA⟩ := HX.out _ l hl
  obtain ⟨_, c0, c1, c2, c3, _, _⟩ := (hA.below h0).below ((Below.refl _ _).alloc (Nat.le_refl _) (.cells #[.int .i64 i, .int .i64 j] 46))
  have HI := Lib.hid (isD_at (j := j) hl)
  clear hA hd hl
  have h1 : ((i : Int) < 0) = False := by simp
  rcases Bool.eq_false_or_eq_true (decide (0 ≤ j)) with hj | hj
  all_goals
   go_wp2_with fail
   go_region
   go_wp2_with fail
   go_ret
   refine ⟨?_, ((Below.refl _ _).alloc (Nat.le_refl _) _).drew⟩
   rw [HI.out, hj]
   rfl
 ·have hi' : decide (0 ≤ i) = false ∨ (decide (0 ≤ i) = true ∧ decide (i < d.length) = false) := by
   by_cases h1 : 0 ≤ i
   ·exact .inr ⟨decide_eq_true h1, decide_eq_false (by omega)⟩
   ·exact .inl (decide_eq_false h1)
  have HI := Lib.hid (isD_off (d := d) (j := j) hi)
  clear hi
  rcases hi' with hi | ⟨hi, hi2⟩
  all_goals
   go_wp2_with fail
   go_region
   go_wp2_with fail
   go_ret
   refine ⟨?_, ((Below.refl _ _).alloc (Nat.le_refl _) _).drew⟩
   rw [HI.out]
   rfl
end Go.Proofs.YtjpgffihafknlaaGreatDoor
