/- What every contract takes of the world: Go's own variables lie as they should; and small lemmas. -/
import Derived.Test.YtcpenjbacgjjeaaDoorRows
import Derived.WalkKit
import Derived.WalkSpells
import Derived.WalkLawsBesides
import Derived.ChangeAgain
import Derived.Lib.Hide
import Derived.Laws.EntriesVeiled
import Derived.RangeFuncNested
import Derived.RangeFuncBound
import Derived.RangeFuncCalls
import Derived.RangeFuncLeaves
import Derived.Shelf.Abstract
import Derived.Shelf.RegionOpen
import Derived.OwnWalkIn
import Derived.TacticsInMore
import Derived.LoopNIn
import Derived.LoopIn
import Derived.RangeFuncBox
namespace Go.Proofs.YtcpenjbacgjjeaaDoor
open Go.RowKit
/-- Go's own variables have their shape. -/
def Env (w : World) : Prop := w.ShapedOpen Tryd.prog
theorem Env.below {w w' : World} (h : Env w) (hb : Below w.heap.size w w') : Env w' :=
  World.ShapedOpen.keptBut (may := fun _ => False) h (hb.frame _) (fun _ h => h.elim)
/-- From a world that stands further on. -/
theorem below_from {a b c : World} (h1 : Below a.heap.size a b) (h2 : Below b.heap.size b c) : Below a.heap.size a c := h1.trans (h2.mono h1.size)
/-- A cell of the block that was laid last. -/
theorem cell_new (w : World) (a : Array Value) (t : TypeId) (k : Nat) : (w.alloc (.cells a t)).cell? ⟨w.heap.size, k, none⟩ = a[k]? := by
  rw [World.cell?, World.alloc_heap_new]; rfl
theorem getOf {α : Type} (l : List α) (k : Nat) (h : k < l.length) : ∃ x, l[k]? = some x ∧ l.drop k = x :: l.drop (k + 1) :=
  ⟨l[k], by simp [h], by simp⟩
theorem toListLoop (b : ByteArray) (n : Nat) : ∀ (i : Nat) (r : List UInt8), b.size - i = n → ByteArray.toList.loop b i r = r.reverse ++ b.data.toList.drop i := by
  induction n with
  | zero =>
    intro i r h
    unfold ByteArray.toList.loop
    rw [if_neg (by omega), List.drop_eq_nil_of_le (by have : b.size = b.data.size := rfl; rw [Array.length_toList]; omega), List.append_nil]
  | succ n ih =>
    intro i r h
    have hi : i < b.data.size := by have : b.size = b.data.size := rfl; omega
    unfold ByteArray.toList.loop
    rw [if_pos (by omega), ih _ _ (by omega)]
    have : b.data.toList.drop i = b.get! i :: b.data.toList.drop (i+1) := by
      rw [List.drop_eq_getElem_cons (by simpa using hi)]
      congr 1
      exact (getElem!_pos b.data i hi).symm
    rw [this, List.reverse_cons, List.append_assoc, List.singleton_append]
theorem toList_eq (b : ByteArray) : b.toList = b.data.toList := by
  unfold ByteArray.toList; rw [toListLoop b _ 0 [] rfl]; rfl
/-- What a comparison of texts tells. -/
theorem eq_of_beq {b : ByteArray} {l : List UInt8} (h : (b.toList == l) = true) : b.data.toList = l := by rw [← toList_eq]; exact beq_iff_eq.1 h
theorem ne_of_beq {b : ByteArray} {l : List UInt8} (h : (b.toList == l) = false) : b.data.toList ≠ l := by rw [← toList_eq]; exact beq_eq_false_iff_ne.1 h
theorem nil_of_empty {b : ByteArray} (h : b.toList.isEmpty = true) : b.data.toList = [] := by rw [← toList_eq]; exact List.isEmpty_iff.1 h
theorem ne_of_empty {b : ByteArray} (h : b.toList.isEmpty = false) : b.data.toList ≠ [] := by rw [← toList_eq]; intro e; rw [e] at h; cases h
theorem int_eq {k : IntKind} {a b : Int} (h : a = b) : Value.int k a = Value.int k b := by rw [h]
theorem grown_of_below {X Y : World} (h : Below X.heap.size X Y) : X.grownBy Y none := ⟨h.os, h.tape, h.output, h.size, fun k hk _ => h.block k hk⟩
theorem abides_below {β : Type} {B : Nat} {J : β → World → Prop} (h : AbidesFrom B J) {s : β} {X Y : World} (hs : J s X) (hb : Below X.heap.size X Y) : J s Y := h s X Y none hs (grown_of_below hb) (by simp)
theorem keeps_below {X Y : World} (hb : Below X.heap.size X Y) : KeepsOthers X Y := .of_grownBy (grown_of_below hb) (by simp)
theorem below_or {w w' : World} (h : w' = w ∨ w' = w.drew) : Below w.heap.size w w' := by
  rcases h with rfl | rfl
  · exact Below.refl _ _
  · exact (Below.refl _ _).drew
/-- Cells that may be written: a row of block B from o on. -/
def RowAt (w : World) (B o : Nat) (l : List Value) : Prop := ∀ k v, l[k]? = some v → w.cell? ⟨B, o + k, none⟩ = some v ∧ w.frozen? ⟨B, o + k, none⟩ = false
theorem setCell_same {w : World} {B o : Nat} {u v : Value} (h : w.cell? ⟨B, o, none⟩ = some u) : (w.setCell ⟨B, o, none⟩ v).cell? ⟨B, o, none⟩ = some v :=
  World.cell?_setCell_same' _ _ _ (by rw [h]; rfl)
theorem setCell_off {w : World} {B o o' : Nat} {v : Value} (h : o ≠ o') : (w.setCell ⟨B, o, none⟩ v).cell? ⟨B, o', none⟩ = w.cell? ⟨B, o', none⟩ := by
  unfold World.cell? World.setCell
  simp only [Array.getElem?_modify]
  cases w.heap[B]? with
  | none => simp
  | some x => cases x <;> simp [h]
theorem setCell_block {w : World} {B B' o o' : Nat} {v : Value} (h : B ≠ B') : (w.setCell ⟨B, o, none⟩ v).cell? ⟨B', o', none⟩ = w.cell? ⟨B', o', none⟩ :=
  World.cell?_of_block (Below.heap_setCell _ _ _ _ (by simp; omega))
theorem RowAt.set {w : World} {B o : Nat} {l : List Value} (h : RowAt w B o l) {i : Nat} (hi : i < l.length) (v : Value) : RowAt (w.setCell ⟨B, o + i, none⟩ v) B o (l.set i v) := by
  intro k u hk
  rw [World.frozen?_setCell]
  by_cases e : i = k
  · subst e
    rw [List.getElem?_set_self hi] at hk
    cases hk
    exact ⟨setCell_same (h i _ (List.getElem?_eq_getElem hi)).1, (h i _ (List.getElem?_eq_getElem hi)).2⟩
  · rw [List.getElem?_set_ne e] at hk
    rw [setCell_off (by omega)]
    exact h k u hk
theorem RowAt.below {w w' : World} {B o n : Nat} {l : List Value} (h : RowAt w B o l) (hb : Below n w w') (hB : B < n) : RowAt w' B o l := fun k v hk =>
  ⟨(hb.cell (p := ⟨B, o + k, none⟩) hB).trans (h k v hk).1, (hb.frozen (p := ⟨B, o + k, none⟩) hB).trans (h k v hk).2⟩
/-- Bytes as cells. -/
def bv (l : List UInt8) : List Value := l.map fun b => .int .u8 (b.toNat : Int)
theorem bv_get {l : List UInt8} {k : Nat} {b : UInt8} (h : l[k]? = some b) : (bv l)[k]? = some (.int .u8 (b.toNat : Int)) := by simp [bv, h]
theorem bv_set (l : List UInt8) (k : Nat) (b : UInt8) : (bv l).set k (.int .u8 (b.toNat : Int)) = bv (l.set k b) := by simp [bv, List.map_set]
theorem bv_length (l : List UInt8) : (bv l).length = l.length := by simp [bv]
/-- 'string(b)'. -/
theorem string_of {w : World} {B c : Nat} {l : List UInt8} (h : RowAt w B 0 (bv l)) : (convert 49 9 (.slice (some ⟨B, 0, none⟩) l.length c)).run Tryd.prog w = .ok (.string ⟨l.toArray⟩) w :=
  run_convert_bytes_back w 49 9 5 ⟨B, 0, none⟩ c l Tryd.underlying49 Tryd.underlying5 Tryd.underlying9 (fun j hj => by
    have := (h j _ (bv_get (List.getElem?_eq_getElem hj))).1
    rw [Nat.zero_add] at this
    rw [show (⟨B, 0, none⟩ : Addr).add j = ⟨B, j, none⟩ by unfold Addr.add; split <;> simp_all]
    exact this)
/-- '[]byte(s)': a new block. -/
theorem bytes_of (w : World) (s : ByteArray) : ∃ (c : Nat) (w1 : World), (convert 9 49 (.string s)).run Tryd.prog w = .ok (.slice (some ⟨w.heap.size, 0, none⟩) s.size c) w1 ∧
    Below w.heap.size w w1 ∧ w.heap.size < w1.heap.size ∧ RowAt w1 w.heap.size 0 (bv s.data.toList) ∧ s.size ≤ c := by
  refine ⟨_, _, run_bytes_of_string w 9 49 5 s Tryd.underlying9 Tryd.underlying49 Tryd.underlying5, ?_, ?_, ?_, ?_⟩
  · exact ((Below.refl _ w).drew).alloc (Nat.le_refl _) _
  · simp
  · intro k v hk
    have hk' : k < s.data.size := by
      have := (List.getElem?_eq_some_iff.1 hk).1
      simpa [bv] using this
    have hv : v = .int .u8 (s.data[k].toNat : Int) := by
      simp only [bv, List.getElem?_map, Option.map_eq_some_iff] at hk
      obtain ⟨a, h1, h2⟩ := hk
      rw [Array.getElem?_toList, Array.getElem?_eq_getElem hk'] at h1
      cases h1
      exact h2.symm
    subst hv
    rw [Nat.zero_add]
    constructor
    · show (World.alloc w.drew _).cell? ⟨w.drew.heap.size, k, none⟩ = _
      rw [World.cell?_alloc_mark, bytesRow_at s _ k hk']
    · unfold World.frozen?
      show (match (World.alloc w.drew _).heap[w.drew.heap.size]? with | some (.cells _ _ (lo, hi)) => decide (lo ≤ k) && decide (k < hi) | _ => false) = false
      rw [World.alloc_heap_new]
      have : s.data.size ≤ (bytesRow s (grownCap w s.size 0 5)).size := by
        unfold bytesRow; rw [Array.size_append, Array.size_map]; omega
      have h2 : decide ((bytesRow s (grownCap w s.size 0 5)).size ≤ k) = false := by simp; omega
      show (decide ((bytesRow s (grownCap w s.size 0 5)).size ≤ k) && _) = false
      rw [h2]; rfl
  · exact grownCap_ge _ _ _ _
/-- What a round of a loop over a function keeps: whatever lay below n₀; and each block of cells from 'base' on (the iterator's own). -/
structure Kp (n₀ base : Nat) (W W' : World) : Prop where
  below : Below n₀ W W'
  cells : ∀ k o, base ≤ k → W.heap[k]? = some o → o.isCells = true → W'.heap[k]? = some o
theorem Kp.t {n₀ base : Nat} {A B C : World} (h : Kp n₀ base A B) (k : Kp n₀ base B C) : Kp n₀ base A C := ⟨h.below.trans k.below, fun i o hi ho hc => k.cells i o hi (h.cells i o hi ho hc) hc⟩
theorem Kp.b {n₀ base : Nat} {w : World} (hn : n₀ ≤ w.heap.size) (W : World) (l : Nat) (o o' : Obj) (hl : w.heap.size ≤ l) (h : W.heap[l]? = some o) (hc : o.isCells = false) (hw : o.isWalk = false) : Kp n₀ base W (W.putObj l o') :=
  ⟨belowK_b hn W l o o' hl h hc hw, fun k u _ hk hu => by
    rw [World.putObj_heap_other (fun e => by subst e; rw [h] at hk; cases hk; rw [hc] at hu; cases hu)]; exact hk⟩
theorem Kp.refl (n₀ base : Nat) (W : World) : Kp n₀ base W W := ⟨Below.refl _ _, fun _ _ _ h _ => h⟩
theorem Kp.of_below {n₀ base : Nat} {W W' : World} (hn : n₀ ≤ W.heap.size) (hb : Below W.heap.size W W') : Kp n₀ base W W' :=
  ⟨hb.mono hn, fun k _ _ hk _ => (hb.block k (Array.getElem?_eq_some_iff.1 hk).1).trans hk⟩
theorem Kp.setCell {n₀ base : Nat} (W : World) {B o : Nat} (h1 : n₀ ≤ B) (h2 : B < base) (v : Value) : Kp n₀ base W (W.setCell ⟨B, o, none⟩ v) :=
  ⟨(Below.refl _ _).setCell h1 _, fun k u hk h _ => by rw [Below.heap_setCell _ _ _ _ (by simp; omega)]; exact h⟩
/-- A cell of a block that is known whole. -/
theorem cell_of_heap {w : World} {B k : Nat} {a : Array Value} {t : TypeId} {f : Nat × Nat} (h : w.heap[B]? = some (.cells a t f)) : w.cell? ⟨B, k, none⟩ = a[k]? := by
  rw [World.cell?, h]; rfl
theorem Boxed.newAt {W : World} {k : Nat} (h : W.heap.size = k) (t : TypeId) (v : Value) : Boxed (W.alloc (.cells #[v] t)) k t v := h ▸ Boxed.new W t v
theorem ownFrom_size {β : Type} (B n : Nat) : OwnFrom B (fun (_ : β) (W : World) => n ≤ W.heap.size) := fun _ _ _ _ hs hg _ => Nat.le_trans hs hg.size
end Go.Proofs.YtcpenjbacgjjeaaDoor
