/- Data with depth in memory: what every walk of documents stands on. -/
import Derived.Test.YtgeaijnelopkbaaDoorRows
import Derived.WalkKit
import Derived.WalkSpells
import Derived.WalkLawsBesides
import Derived.ChangeAgain
import Derived.Lib.Hide
import Derived.Laws.EntriesVeiled
import Derived.RangeFuncNested
import Derived.RangeFuncBound
import Derived.RangeFuncCalls
import Derived.RangeFuncLeaves
import Derived.Shelf.Abstract
import Derived.Shelf.RegionOpen
import Derived.OwnWalkIn
import Derived.TacticsInMore
import Derived.LoopNIn
import Derived.LoopIn
import Derived.RangeFuncBox
import Derived.Handy
import Derived.Deep.Draws
import Derived.BigQuiet
import Derived.Deep.QuietTactic
import Derived.Deep.AppendSrc
import Derived.Lib.Small
import Derived.Lib.ValidU
import Derived.Lib.MapU
import Derived.Lib.IndexMore
import Derived.Deep.AppendLies
import Derived.Lib.AppendZerosOnto
import Derived.Lib.Overlaps
import Derived.Sort.QuietTacIn
import Derived.Deep.RegionHeld3
import Derived.Test.YtgeaijnelopkbaaDoorShelf
import Derived.Lib.OthersKept
import Derived.Deep.DrawnRows
import Derived.Laws.Cover4
import Derived.Lib.MapLaws
import Derived.IntWalk
import Derived.Lib.TrimAscii
import Derived.Test.YtgeaijnelopkbaaDoorCards
import Derived.Test.YtgeaijnelopkbaaDoorTie
import Derived.ProofKit
import Derived.OpenShut
import Derived.Deep.DeepHandedRow
import Derived.Lib.LaidTab
import Derived.Lib.SmallJoins
import Derived.Lib.LaidU8T
import Derived.Carry
set_option linter.unusedVariables false
set_option linter.unusedSimpArgs false
namespace Go.Proofs.YtgeaijnelopkbaaDoor
open Go.RowKit
def Env (w : World) : Prop := w.ShapedOpen Tryd.prog
theorem Env.below {w w' : World} (h : Env w) (hb : Below w.heap.size w w') : Env w' :=
  World.ShapedOpen.keptBut (may := fun _ => False) h (hb.frame _) (fun _ h => h.elim)
theorem bcell {W w1 : World} (hb : Below W.heap.size W w1) : (∀ b o, b < W.heap.size → w1.cell? ⟨b, o, none⟩ = W.cell? ⟨b, o, none⟩) ∧ (∀ b o, b < W.heap.size → w1.frozen? ⟨b, o, none⟩ = W.frozen? ⟨b, o, none⟩) :=
  ⟨fun b o h => hb.cell (p := ⟨b, o, none⟩) h, fun b o h => hb.frozen (p := ⟨b, o, none⟩) h⟩
theorem below_from {a b c : World} (h1 : Below a.heap.size a b) (h2 : Below b.heap.size b c) : Below a.heap.size a c := h1.trans (h2.mono h1.size)
theorem cell_new (w : World) (a : Array Value) (t : TypeId) (k : Nat) : (w.alloc (.cells a t)).cell? ⟨w.heap.size, k, none⟩ = a[k]? := by
  rw [World.cell?, World.alloc_heap_new]; rfl
theorem getOf {α : Type} (l : List α) (k : Nat) (h : k < l.length) : ∃ x, l[k]? = some x ∧ l.drop k = x :: l.drop (k + 1) :=
  ⟨l[k], by simp [h], by simp⟩
theorem toListLoop (b : ByteArray) (n : Nat) : ∀ (i : Nat) (r : List UInt8), b.size - i = n → ByteArray.toList.loop b i r = r.reverse ++ b.data.toList.drop i := by
  induction n with
  | zero =>
    intro i r h
    unfold ByteArray.toList.loop
    rw [if_neg (by omega), List.drop_eq_nil_of_le (by have : b.size = b.data.size := rfl; rw [Array.length_toList]; omega), List.append_nil]
  | succ n ih =>
    intro i r h
    have hi : i < b.data.size := by have : b.size = b.data.size := rfl; omega
    unfold ByteArray.toList.loop
    rw [if_pos (by omega), ih _ _ (by omega)]
    have : b.data.toList.drop i = b.get! i :: b.data.toList.drop (i+1) := by
      rw [List.drop_eq_getElem_cons (by simpa using hi)]
      congr 1
      exact (getElem!_pos b.data i hi).symm
    rw [this, List.reverse_cons, List.append_assoc, List.singleton_append]
theorem toList_eq (b : ByteArray) : b.toList = b.data.toList := by
  unfold ByteArray.toList; rw [toListLoop b _ 0 [] rfl]; rfl
theorem eq_of_beq {b : ByteArray} {l : List UInt8} (h : (b.toList == l) = true) : b.data.toList = l := by rw [← toList_eq]; exact beq_iff_eq.1 h
theorem ne_of_beq {b : ByteArray} {l : List UInt8} (h : (b.toList == l) = false) : b.data.toList ≠ l := by rw [← toList_eq]; exact beq_eq_false_iff_ne.1 h
theorem nil_of_empty {b : ByteArray} (h : b.toList.isEmpty = true) : b.data.toList = [] := by rw [← toList_eq]; exact List.isEmpty_iff.1 h
theorem ne_of_empty {b : ByteArray} (h : b.toList.isEmpty = false) : b.data.toList ≠ [] := by rw [← toList_eq]; intro e; rw [e] at h; cases h
theorem int_eq {k : IntKind} {a b : Int} (h : a = b) : Value.int k a = Value.int k b := by rw [h]
theorem grown_of_below {X Y : World} (h : Below X.heap.size X Y) : X.grownBy Y none := ⟨h.os, h.tape, h.output, h.size, fun k hk _ => h.block k hk⟩
theorem abides_below {β : Type} {B : Nat} {J : β → World → Prop} (h : AbidesFrom B J) {s : β} {X Y : World} (hs : J s X) (hb : Below X.heap.size X Y) : J s Y := h s X Y none hs (grown_of_below hb) (by simp)
theorem keeps_below {X Y : World} (hb : Below X.heap.size X Y) : KeepsOthers X Y := .of_grownBy (grown_of_below hb) (by simp)
theorem below_or {w w' : World} (h : w' = w ∨ w' = w.drew) : Below w.heap.size w w' := by
  rcases h with rfl | rfl
  · exact Below.refl _ _
  · exact (Below.refl _ _).drew
def RowAt (w : World) (B o : Nat) (l : List Value) : Prop := ∀ k v, l[k]? = some v → w.cell? ⟨B, o + k, none⟩ = some v ∧ w.frozen? ⟨B, o + k, none⟩ = false
theorem setCell_same {w : World} {B o : Nat} {u v : Value} (h : w.cell? ⟨B, o, none⟩ = some u) : (w.setCell ⟨B, o, none⟩ v).cell? ⟨B, o, none⟩ = some v :=
  World.cell?_setCell_same' _ _ _ (by rw [h]; rfl)
theorem setCell_off {w : World} {B o o' : Nat} {v : Value} (h : o ≠ o') : (w.setCell ⟨B, o, none⟩ v).cell? ⟨B, o', none⟩ = w.cell? ⟨B, o', none⟩ := by
  unfold World.cell? World.setCell
  simp only [Array.getElem?_modify]
  cases w.heap[B]? with
  | none => simp
  | some x => cases x <;> simp [h]
theorem setCell_block {w : World} {B B' o o' : Nat} {v : Value} (h : B ≠ B') : (w.setCell ⟨B, o, none⟩ v).cell? ⟨B', o', none⟩ = w.cell? ⟨B', o', none⟩ :=
  World.cell?_of_block (Below.heap_setCell _ _ _ _ (by simp; omega))
theorem RowAt.set {w : World} {B o : Nat} {l : List Value} (h : RowAt w B o l) {i : Nat} (hi : i < l.length) (v : Value) : RowAt (w.setCell ⟨B, o + i, none⟩ v) B o (l.set i v) := by
  intro k u hk
  rw [World.frozen?_setCell]
  by_cases e : i = k
  · subst e
    rw [List.getElem?_set_self hi] at hk
    cases hk
    exact ⟨setCell_same (h i _ (List.getElem?_eq_getElem hi)).1, (h i _ (List.getElem?_eq_getElem hi)).2⟩
  · rw [List.getElem?_set_ne e] at hk
    rw [setCell_off (by omega)]
    exact h k u hk
theorem RowAt.below {w w' : World} {B o n : Nat} {l : List Value} (h : RowAt w B o l) (hb : Below n w w') (hB : B < n) : RowAt w' B o l := fun k v hk =>
  ⟨(hb.cell (p := ⟨B, o + k, none⟩) hB).trans (h k v hk).1, (hb.frozen (p := ⟨B, o + k, none⟩) hB).trans (h k v hk).2⟩
def bv (l : List UInt8) : List Value := l.map fun b => .int .u8 (b.toNat : Int)
theorem bv_get {l : List UInt8} {k : Nat} {b : UInt8} (h : l[k]? = some b) : (bv l)[k]? = some (.int .u8 (b.toNat : Int)) := by simp [bv, h]
theorem bv_set (l : List UInt8) (k : Nat) (b : UInt8) : (bv l).set k (.int .u8 (b.toNat : Int)) = bv (l.set k b) := by simp [bv, List.map_set]
theorem bv_length (l : List UInt8) : (bv l).length = l.length := by simp [bv]
theorem string_of {w : World} {B c : Nat} {l : List UInt8} (h : RowAt w B 0 (bv l)) : (convert 75 9 (.slice (some ⟨B, 0, none⟩) l.length c)).run Tryd.prog w = .ok (.string ⟨l.toArray⟩) w :=
  run_convert_bytes_back w 75 9 5 ⟨B, 0, none⟩ c l Tryd.underlying75 Tryd.underlying5 Tryd.underlying9 (fun j hj => by
    have := (h j _ (bv_get (List.getElem?_eq_getElem hj))).1
    rw [Nat.zero_add] at this
    rw [show (⟨B, 0, none⟩ : Addr).add j = ⟨B, j, none⟩ by unfold Addr.add; split <;> simp_all]
    exact this)
theorem bytes_of (w : World) (s : ByteArray) : ∃ (c : Nat) (w1 : World), (convert 9 75 (.string s)).run Tryd.prog w = .ok (.slice (some ⟨w.heap.size, 0, none⟩) s.size c) w1 ∧
    Below w.heap.size w w1 ∧ w.heap.size < w1.heap.size ∧ RowAt w1 w.heap.size 0 (bv s.data.toList) ∧ s.size ≤ c := by
  refine ⟨_, _, run_bytes_of_string w 9 75 5 s Tryd.underlying9 Tryd.underlying75 Tryd.underlying5, ?_, ?_, ?_, ?_⟩
  · exact ((Below.refl _ w).drew).alloc (Nat.le_refl _) _
  · simp
  · intro k v hk
    have hk' : k < s.data.size := by
      have := (List.getElem?_eq_some_iff.1 hk).1
      simpa [bv] using this
    have hv : v = .int .u8 (s.data[k].toNat : Int) := by
      simp only [bv, List.getElem?_map, Option.map_eq_some_iff] at hk
      obtain ⟨a, h1, h2⟩ := hk
      rw [Array.getElem?_toList, Array.getElem?_eq_getElem hk'] at h1
      cases h1
      exact h2.symm
    subst hv
    rw [Nat.zero_add]
    constructor
    · show (World.alloc w.drew _).cell? ⟨w.drew.heap.size, k, none⟩ = _
      rw [World.cell?_alloc_mark, bytesRow_at s _ k hk']
    · unfold World.frozen?
      show (match (World.alloc w.drew _).heap[w.drew.heap.size]? with | some (.cells _ _ (lo, hi)) => decide (lo ≤ k) && decide (k < hi) | _ => false) = false
      rw [World.alloc_heap_new]
      have : s.data.size ≤ (bytesRow s (grownCap w s.size 0 5)).size := by
        unfold bytesRow; rw [Array.size_append, Array.size_map]; omega
      have h2 : decide ((bytesRow s (grownCap w s.size 0 5)).size ≤ k) = false := by simp; omega
      show (decide ((bytesRow s (grownCap w s.size 0 5)).size ≤ k) && _) = false
      rw [h2]; rfl
  · exact grownCap_ge _ _ _ _
structure Kp (n₀ base : Nat) (W W' : World) : Prop where
  below : Below n₀ W W'
  cells : ∀ k o, base ≤ k → W.heap[k]? = some o → o.isCells = true → W'.heap[k]? = some o
theorem Kp.t {n₀ base : Nat} {A B C : World} (h : Kp n₀ base A B) (k : Kp n₀ base B C) : Kp n₀ base A C := ⟨h.below.trans k.below, fun i o hi ho hc => k.cells i o hi (h.cells i o hi ho hc) hc⟩
theorem Kp.b {n₀ base : Nat} {w : World} (hn : n₀ ≤ w.heap.size) (W : World) (l : Nat) (o o' : Obj) (hl : w.heap.size ≤ l) (h : W.heap[l]? = some o) (hc : o.isCells = false) (hw : o.isWalk = false) : Kp n₀ base W (W.putObj l o') :=
  ⟨belowK_b hn W l o o' hl h hc hw, fun k u _ hk hu => by
    rw [World.putObj_heap_other (fun e => by subst e; rw [h] at hk; cases hk; rw [hc] at hu; cases hu)]; exact hk⟩
theorem Kp.refl (n₀ base : Nat) (W : World) : Kp n₀ base W W := ⟨Below.refl _ _, fun _ _ _ h _ => h⟩
theorem Kp.of_below {n₀ base : Nat} {W W' : World} (hn : n₀ ≤ W.heap.size) (hb : Below W.heap.size W W') : Kp n₀ base W W' :=
  ⟨hb.mono hn, fun k _ _ hk _ => (hb.block k (Array.getElem?_eq_some_iff.1 hk).1).trans hk⟩
theorem Kp.setCell {n₀ base : Nat} (W : World) {B o : Nat} (h1 : n₀ ≤ B) (h2 : B < base) (v : Value) : Kp n₀ base W (W.setCell ⟨B, o, none⟩ v) :=
  ⟨(Below.refl _ _).setCell h1 _, fun k u hk h _ => by rw [Below.heap_setCell _ _ _ _ (by simp; omega)]; exact h⟩
theorem cell_of_heap {w : World} {B k : Nat} {a : Array Value} {t : TypeId} {f : Nat × Nat} (h : w.heap[B]? = some (.cells a t f)) : w.cell? ⟨B, k, none⟩ = a[k]? := by
  rw [World.cell?, h]; rfl
theorem heap_new (w : World) (o : Obj) {B : Nat} (h : B = w.heap.size) : (w.alloc o).heap[B]? = some o := h ▸ World.alloc_heap_new _ _
theorem heap_old (w : World) (o : Obj) {B : Nat} {x : Obj} (h : w.heap[B]? = some x) : (w.alloc o).heap[B]? = some x :=
  (heap_alloc_old w o (Array.getElem?_eq_some_iff.1 h).1).trans h
theorem frozen_of_heap {w : World} {B k : Nat} {a : Array Value} {t : TypeId} (h : w.heap[B]? = some (.cells a t)) : w.frozen? ⟨B, k, none⟩ = false := by
  rw [World.frozen?, h]; simp
theorem blk {w : World} {B : Nat} {a : Array Value} {t : TypeId} (h : w.heap[B]? = some (.cells a t)) : (∀ k, w.cell? ⟨B, k, none⟩ = a[k]?) ∧ (∀ k, w.frozen? ⟨B, k, none⟩ = false) := ⟨fun _ => cell_of_heap h, fun _ => frozen_of_heap h⟩
theorem heap_below {X Y : World} {B : Nat} {x : Obj} (hb : Below X.heap.size X Y) (h : X.heap[B]? = some x) : Y.heap[B]? = some x := (hb.block B (Array.getElem?_eq_some_iff.1 h).1).trans h
def putIn (o : Nat) (v : Value) : Obj → Obj
  | .cells cs t f => .cells (cs.setIfInBounds o v) t f
  | x => x
theorem heap_set (w : World) (B o : Nat) (v : Value) (B' : Nat) : (w.setCell ⟨B, o, none⟩ v).heap[B']? = if B = B' then (w.heap[B']?).map (putIn o v) else w.heap[B']? := by
  show (w.heap.modify B _)[B']? = _
  rw [Array.getElem?_modify]
  congr 2
theorem drewN_below {B : Nat} {a w : World} {n : Nat} (h : Below B a w) : Below B a (w.drewN n) := ⟨h.os, h.tape, h.output, h.size, h.block⟩
theorem Boxed.newAt {W : World} {k : Nat} (h : W.heap.size = k) (t : TypeId) (v : Value) : Boxed (W.alloc (.cells #[v] t)) k t v := h ▸ Boxed.new W t v
theorem ownFrom_size {β : Type} (B n : Nat) : OwnFrom B (fun (_ : β) (W : World) => n ≤ W.heap.size) := fun _ _ _ _ hs hg _ => Nat.le_trans hs hg.size
end Go.Proofs.YtgeaijnelopkbaaDoor
namespace Go.Proofs.Qw
open Go.RowKit
theorem take_some {α : Type} {l : List α} {k : Nat} {x : α} (h : l[k]? = some x) : l.take (k + 1) = l.take k ++ [x] := by
  rw [List.take_add_one, h]; rfl
structure Cel where
  r : Int
  bits : Int
  href : List UInt8
  deriving DecidableEq, Inhabited
structure Lin where
  quote : Int
  lists : List Int
  kind : Int
  cells : List Cel
  deriving DecidableEq, Inhabited
abbrev Rd (α : Type) := World → (Nat → Prop) → List Value → α → Prop
structure Keeps (S : Nat → Prop) (w w' : World) : Prop where
  size : w.heap.size ≤ w'.heap.size
  block : ∀ b, S b → b < w.heap.size → w'.heap[b]? = w.heap[b]?
theorem Keeps.of_below {S : Nat → Prop} {n : Nat} {w w' : World} (h : Below n w w') (hS : ∀ b, S b → b < w.heap.size → b < n) : Keeps S w w' := ⟨h.size, fun b hb hz => h.block b (hS b hb hz)⟩
theorem Keeps.all {S : Nat → Prop} {w w' : World} (h : Below w.heap.size w w') : Keeps S w w' := ⟨h.size, fun b _ hz => h.block b hz⟩
theorem Keeps.refl (S : Nat → Prop) (w : World) : Keeps S w w := ⟨Nat.le_refl _, fun _ _ _ => rfl⟩
theorem Keeps.trans {S : Nat → Prop} {a b c : World} (h : Keeps S a b) (k : Keeps S b c) : Keeps S a c := ⟨Nat.le_trans h.size k.size, fun i hi hz => (k.block i hi (Nat.lt_of_lt_of_le hz h.size)).trans (h.block i hi hz)⟩
theorem Keeps.set {S : Nat → Prop} {a w : World} (h : Keeps S a w) {p : Addr} (hp : ¬ S p.block) (u : Value) : Keeps S a (w.setCell p u) :=
  h.trans ⟨by simp, fun b hb _ => Below.heap_setCell _ _ _ _ (fun e => hp (e ▸ hb))⟩
theorem Keeps.alloc {S : Nat → Prop} {a w : World} (h : Keeps S a w) (o : Obj) : Keeps S a (w.alloc o) := h.trans ⟨by simp, fun b _ hz => Below.heap_alloc _ _ _ hz⟩
theorem Keeps.drew {S : Nat → Prop} {a w : World} (h : Keeps S a w) : Keeps S a w.drew := h.trans ⟨Nat.le_refl _, fun _ _ _ => rfl⟩
theorem Keeps.on {S : Nat → Prop} {a w w' : World} (h : Keeps S a w) (hb : Below w.heap.size w w') : Keeps S a w' := h.trans (.all hb)
structure Stable {α : Type} (R : Rd α) : Prop where
  go : ∀ (w w' : World) (S S' : Nat → Prop) (vs : List Value) (x : α), R w S vs x → Keeps S w w' → (∀ b, S b → b < w.heap.size → S' b) → R w' S' vs x
def rdOf {α : Type} (enc : α → List Value) : Rd α := fun _ _ vs x => vs = enc x
theorem rdOf_stable {α : Type} (enc : α → List Value) : Stable (rdOf enc) := ⟨fun _ _ _ _ _ _ h _ _ => h⟩
def SliceR {α : Type} (t : TypeId) (k : Nat) (R : Rd α) (own : Bool) (w : World) (S : Nat → Prop) (v : Value) (xs : List α) : Prop :=
  ∃ a c, v = .slice a xs.length c ∧ xs.length ≤ c ∧ c ≤ maxLen ∧ ((xs = [] ∧ (own = true → c = 0)) ∨ ∃ b o, a = some ⟨b, o, none⟩ ∧ S b ∧ b < w.heap.size ∧ (own = true → ∃ cs, w.heap[b]? = some (.cells cs t) ∧ o + c * k ≤ cs.size) ∧
    ∀ i x, xs[i]? = some x → ∃ vs : List Value, vs.length = k ∧ R w S vs x ∧ ∀ j u, vs[j]? = some u → w.cell? ⟨b, o + i * k + j, none⟩ = some u)
section
variable {α : Type} {t : TypeId} {k : Nat} {R : Rd α} {own : Bool} {w w' : World} {S S' : Nat → Prop} {v : Value} {xs : List α}
theorem SliceR.stable (hR : Stable R) (h : SliceR t k R own w S v xs) (hk : Keeps S w w') (hS : ∀ b, S b → b < w.heap.size → S' b) : SliceR t k R own w' S' v xs := by
  obtain ⟨a, c, h1, h2, h3, h | ⟨b, o, rfl, hb, hz, hf, he⟩⟩ := h
  · exact ⟨a, c, h1, h2, h3, .inl h⟩
  · refine ⟨_, c, h1, h2, h3, .inr ⟨b, o, rfl, hS b hb hz, Nat.lt_of_lt_of_le hz hk.size, fun ho => ?_, fun i x hx => ?_⟩⟩
    · obtain ⟨cs, h1, h2⟩ := hf ho
      exact ⟨cs, (hk.block b hb hz).trans h1, h2⟩
    · obtain ⟨vs, h1, h2, h3⟩ := he i x hx
      exact ⟨vs, h1, hR.go _ _ _ _ _ _ h2 hk hS, fun j u hu => by rw [World.cell?_of_block (w := w) (hk.block b hb hz)]; exact h3 j u hu⟩
theorem SliceR.below (hR : Stable R) (h : SliceR t k R own w S v xs) (hb : Below w.heap.size w w') : SliceR t k R own w' S v xs :=
  h.stable hR (.all hb) (fun _ h _ => h)
theorem SliceR.read {R' : Rd α} (hRR : ∀ vs x, R w S vs x → R' w S vs x) (h : SliceR t k R own w S v xs) : SliceR t k R' false w S v xs := by
  obtain ⟨a, c, h1, h2, h3, h | ⟨b, o, rfl, hb, hz, hf, he⟩⟩ := h
  · exact ⟨a, c, h1, h2, h3, .inl ⟨h.1, fun h => by cases h⟩⟩
  · exact ⟨_, c, h1, h2, h3, .inr ⟨b, o, rfl, hb, hz, (fun h => by cases h), fun i x hx => by
      obtain ⟨vs, g1, g2, g3⟩ := he i x hx
      exact ⟨vs, g1, hRR _ _ g2, g3⟩⟩⟩
theorem SliceR.nil (t : TypeId) (k : Nat) (R : Rd α) (own : Bool) (w : World) (S : Nat → Prop) : SliceR t k R own w S (.slice none 0 0) [] := ⟨none, 0, rfl, Nat.le_refl _, by decide, .inl ⟨rfl, fun _ => rfl⟩⟩
theorem SliceR.empty (t : TypeId) (k : Nat) (R : Rd α) (own : Bool) (w : World) (S : Nat → Prop) (a : Option Addr) : SliceR t k R own w S (.slice a 0 0) [] := ⟨a, 0, rfl, Nat.le_refl _, by decide, .inl ⟨rfl, fun _ => rfl⟩⟩
theorem SliceR.shape (h : SliceR t k R own w S v xs) :
    ∃ a c, v = .slice a xs.length c ∧ xs.length ≤ c ∧ c ≤ maxLen ∧ ∀ i x, xs[i]? = some x → ∃ b o vs, a = some ⟨b, o, none⟩ ∧ b < w.heap.size ∧ S b ∧ vs.length = k ∧ R w S vs x ∧ ∀ j u, vs[j]? = some u → w.cell? ⟨b, o + i * k + j, none⟩ = some u := by
  obtain ⟨a, c, rfl, hc, hm, ⟨rfl, _⟩ | ⟨b, o, rfl, hb, hz, _, he⟩⟩ := h
  · exact ⟨a, c, rfl, hc, hm, fun i x hx => by cases hx⟩
  · exact ⟨_, c, rfl, hc, hm, fun i x hx => by
      obtain ⟨vs, h1, h2, h3⟩ := he i x hx
      exact ⟨b, o, vs, rfl, hz, hb, h1, h2, h3⟩⟩
theorem SliceR.shape_own (h : SliceR t k R true w S v xs) :
    ∃ a c, v = .slice a xs.length c ∧ xs.length ≤ c ∧ c ≤ maxLen ∧ ∀ i x, xs[i]? = some x → ∃ b o vs cs, a = some ⟨b, o, none⟩ ∧ b < w.heap.size ∧ S b ∧ w.heap[b]? = some (.cells cs t) ∧ o + c * k ≤ cs.size ∧ vs.length = k ∧ R w S vs x ∧ ∀ j u, vs[j]? = some u → w.cell? ⟨b, o + i * k + j, none⟩ = some u := by
  obtain ⟨a, c, rfl, hc, hm, ⟨rfl, _⟩ | ⟨b, o, rfl, hb, hz, ho, he⟩⟩ := h
  · exact ⟨a, c, rfl, hc, hm, fun i x hx => by cases hx⟩
  · exact ⟨_, c, rfl, hc, hm, fun i x hx => by
      obtain ⟨vs, h1, h2, h3⟩ := he i x hx
      obtain ⟨cs, g1, g2⟩ := ho rfl
      exact ⟨b, o, vs, cs, rfl, hz, hb, g1, g2, h1, h2, h3⟩⟩
theorem SliceR.slice (h : SliceR t k R own w S v xs) : ∃ a c, v = .slice a xs.length c := by
  obtain ⟨a, c, rfl, _⟩ := h
  exact ⟨a, c, rfl⟩
theorem SliceR.len {a : Option Addr} {n c : Nat} (h : SliceR t k R own w S (.slice a n c) xs) : n = xs.length ∧ xs.length ≤ c ∧ c ≤ maxLen := by
  obtain ⟨a', c', e, hc, hm, hx⟩ := h
  cases e
  exact ⟨rfl, hc, hm⟩
theorem SliceR.take {a : Option Addr} {n c : Nat} (h : SliceR t k R own w S (.slice a n c) xs) {i : Nat} (hi : i ≤ xs.length) : SliceR t k R own w S (.slice a i c) (xs.take i) := by
  obtain ⟨a', c', e, hc, hm, hx⟩ := h
  cases e
  have hl : (xs.take i).length = i := by rw [List.length_take]; omega
  refine ⟨a, c, by rw [hl], by omega, hm, ?_⟩
  rcases hx with ⟨rfl, h0⟩ | ⟨b, o, rfl, hb, hz, hf, he⟩
  · exact .inl ⟨by simp, h0⟩
  · refine .inr ⟨b, o, rfl, hb, hz, hf, fun j x hj => he j x ?_⟩
    rw [List.getElem?_take] at hj
    split at hj
    · exact hj
    · cases hj
end
theorem SliceR.cellAt {α : Type} {t : TypeId} {k : Nat} {R : Rd α} {w : World} {S : Nat → Prop} {a : Option Addr} {n c : Nat} {xs : List α} (h : SliceR t k R true w S (.slice a n c) xs) {i : Nat} (hi : i < xs.length) :
    ∃ b o, ∃ cs : Array Value, a = some ⟨b, o, none⟩ ∧ S b ∧ w.heap[b]? = some (.cells cs t) ∧ o + i * k + k ≤ cs.size := by
  obtain ⟨a', c', e, hc, hm, hx⟩ := h.shape_own
  cases e
  obtain ⟨b, o, vs, cs, rfl, hz, hb, g1, g2, _, _, _⟩ := hx i xs[i] (List.getElem?_eq_getElem hi)
  refine ⟨b, o, cs, rfl, hb, g1, ?_⟩
  have : i * k + k ≤ c * k := by rw [← Nat.succ_mul]; exact Nat.mul_le_mul_right _ (by omega)
  omega
def encRune (n : Int) : List Value := [.int .i32 n]
end Go.Proofs.Qw
namespace Go.Proofs.Qw
def classF (c : Int) : Int :=
  if Lib.validRune c = false then 0 else if c < 32 then 1 else if c = 127 then 1 else if c = 32 ∨ c = 160 then 2 else if c = 65533 then 5
  else if 97 ≤ c ∧ c ≤ 122 then 3 else if 65 ≤ c ∧ c ≤ 90 then 3 else if 128 ≤ c then 3 else if 48 ≤ c ∧ c ≤ 57 then 4 else 5
def mayR (c : Int) : Bool := decide (1 < classF c)
def runesGo (s : ByteArray) : Nat → Nat → List Int
  | 0, _ => []
  | f + 1, pos => if pos < s.size then ((Utf8.decode s pos).1 : Int) :: runesGo s f (pos + (Utf8.decode s pos).2) else []
def runesB (s : ByteArray) : List Int := runesGo s s.size 0
def valueB (s : ByteArray) : Bool := (runesB s).all mayR && (decide (s.size ≤ 200) && Lib.validD s.data.toList)
def valueF (s : List UInt8) : Bool := valueB ⟨s.toArray⟩
def lowR (c : Int) : Int := if 65 ≤ c ∧ c ≤ 90 then c + 32 else c
def javascript : List UInt8 := [106, 97, 118, 97, 115, 99, 114, 105, 112, 116]
def targetF (s : List UInt8) : Bool :=
  valueF s && (decide (s ≠ []) && (decide (s.head? ≠ some 32) && (decide (s.getLast? ≠ some 32) && !(Lib.mapD lowR (Lib.cut s [58]).1 == javascript))))
abbrev Doc := List Lin
def sizeD (d : Doc) : Nat := (d.map (·.cells.length)).sum
end Go.Proofs.Qw
namespace Go.Proofs.Qw
open Go.RowKit Go.Proofs.YtgeaijnelopkbaaDoor
structure Tagged {α : Type} (t : TypeId) (R : Rd α) : Prop where
  go : ∀ (w w' : World) (S S' : Nat → Prop) (vs : List Value) (x : α), R w S vs x → w.heap.size ≤ w'.heap.size → (∀ b, S b → b < w.heap.size → (∀ cs, w.heap[b]? ≠ some (.cells cs t)) → w'.heap[b]? = w.heap[b]?) →
    (∀ b, S b → b < w.heap.size → S' b) → R w' S' vs x
structure Elt {α : Type} (t : TypeId) (k : Nat) (R : Rd α) : Prop where
  pos : 0 < k
  len : ∀ w S vs x, R w S vs x → vs.length = k
  ones : ∀ w S vs x, R w S vs x → ∀ u ∈ vs, u.oneCell' = true
  tag : Tagged t R
  st : Stable R
structure RowT (P : Program) (st t : TypeId) (k : Nat) : Prop where
  under : P.underlying st = some (.slice t)
  info : ∃ i z, P.info? t = some i ∧ i.zero = some z ∧ i.size = k ∧ i.bytes ≤ 256 ∧ z.cells.size = k
theorem RowT.mk' {P : Program} {st t : TypeId} {k y : Nat} {z : Value} (h : P.underlying st = some (.slice t)) (hi : (P.info? t).map (fun i => (i.zero, i.size, i.bytes)) = some (some z, k, y)) (hy : y ≤ 256) (hz : z.cells.size = k) : RowT P st t k := by
  obtain ⟨i, h1, h2, h3, h4⟩ := info_parts hi
  exact ⟨h, i, z, h1, h2, h3, by omega, hz⟩
theorem tagged_of {α : Type} (t : TypeId) (enc : α → List Value) : Tagged t (rdOf enc) := ⟨fun _ _ _ _ _ _ h _ _ _ => h⟩
theorem elt_of {α : Type} (t : TypeId) {k : Nat} {enc : α → List Value} (h0 : 0 < k) (h1 : ∀ x, (enc x).length = k) (h2 : ∀ x, ∀ u ∈ enc x, u.oneCell' = true) : Elt t k (rdOf enc) :=
  ⟨h0, fun _ _ _ x h => h ▸ h1 x, fun _ _ _ x h => h ▸ h2 x, tagged_of t enc, rdOf_stable enc⟩
theorem setCells_heap : ∀ (l : List Value) (w : World) (b o : Nat) (cs : Array Value) (t : TypeId) (f : Nat × Nat), w.heap[b]? = some (.cells cs t f) → o + l.length ≤ cs.size →
    ∃ cs' : Array Value, (w.setCells b o l).heap[b]? = some (.cells cs' t f) ∧ cs'.size = cs.size ∧ (∀ j, (j < o ∨ o + l.length ≤ j) → cs'[j]? = cs[j]?) ∧ (∀ j u, l[j]? = some u → cs'[o + j]? = some u)
  | [], w, b, o, cs, t, f, h, _ => ⟨cs, h, rfl, fun _ _ => rfl, fun j u hu => by cases hu⟩
  | v :: l, w, b, o, cs, t, f, h, hl => by
    have h1 : (w.setCell ⟨b, o, none⟩ v).heap[b]? = some (.cells (cs.setIfInBounds o v) t f) := by
      show (w.heap.modify b _)[b]? = _
      rw [Array.getElem?_modify, if_pos rfl, h]
      rfl
    simp only [List.length_cons] at hl
    obtain ⟨cs', g1, g2, g3, g4⟩ := setCells_heap l (w.setCell ⟨b, o, none⟩ v) b (o + 1) _ t f h1 (by simp; omega)
    refine ⟨cs', g1, by rw [g2]; simp, fun j hj => ?_, fun j u hu => ?_⟩
    · simp only [List.length_cons] at hj
      rw [g3 j (by omega), Array.getElem?_setIfInBounds]
      rw [if_neg (by omega)]
    · match j, hu with
      | 0, hu =>
        cases hu
        rw [Nat.add_zero, g3 o (by omega), Array.getElem?_setIfInBounds, if_pos rfl, if_pos (by omega)]
      | j + 1, hu =>
        have := g4 j u hu
        rw [show o + (j + 1) = o + 1 + j by omega]
        exact this
theorem setCells_size (b : Nat) : ∀ (l : List Value) (o : Nat) (w : World), (w.setCells b o l).heap.size = w.heap.size
  | [], _, _ => rfl
  | v :: l, o, w => by rw [World.setCells, setCells_size b l]; simp
theorem setCells_other (b : Nat) : ∀ (l : List Value) (o : Nat) (w : World) (c : Nat), c ≠ b → (w.setCells b o l).heap[c]? = w.heap[c]?
  | [], _, _, _, _ => rfl
  | v :: l, o, w, c, h => by rw [World.setCells, setCells_other b l _ _ _ h, Below.heap_setCell _ _ _ _ h]
theorem setCells_rest (b : Nat) : ∀ (l : List Value) (o : Nat) (w : World), (w.setCells b o l).os = w.os ∧ (w.setCells b o l).tape = w.tape ∧ (w.setCells b o l).output = w.output
  | [], _, _ => ⟨rfl, rfl, rfl⟩
  | v :: l, o, w => by rw [World.setCells]; exact setCells_rest b l _ _
theorem setCells_below {n b o : Nat} {l : List Value} {w : World} (h : n ≤ b) : Below n w (w.setCells b o l) :=
  ⟨(setCells_rest b l o w).1, (setCells_rest b l o w).2.1, (setCells_rest b l o w).2.2, Nat.le_of_eq (setCells_size b l o w).symm, fun c hc => setCells_other b l o w c (by omega)⟩
theorem flatten_at {k : Nat} : ∀ (vss : List (List Value)) (i : Nat) (vs : List Value) (j : Nat) (u : Value), (∀ vs ∈ vss, vs.length = k) → vss[i]? = some vs → vs[j]? = some u → vss.flatten[i * k + j]? = some u
  | [], i, vs, j, u, _, h, _ => by cases h
  | x :: l, 0, vs, j, u, hk, h, hu => by
    cases h
    rw [List.flatten_cons, List.getElem?_append_left (by have := (List.getElem?_eq_some_iff.1 hu).1; omega), Nat.zero_mul, Nat.zero_add]
    exact hu
  | x :: l, i + 1, vs, j, u, hk, h, hu => by
    have hx := hk x (by simp)
    rw [List.flatten_cons, List.getElem?_append_right (by rw [hx, Nat.add_mul]; omega), hx, show (i + 1) * k + j - k = i * k + j by rw [Nat.add_mul]; omega]
    exact flatten_at l i vs j u (fun y hy => hk y (by simp [hy])) h hu
theorem at_flatten {k : Nat} (hp : 0 < k) : ∀ (vss : List (List Value)) (j : Nat) (u : Value), (∀ vs ∈ vss, vs.length = k) → vss.flatten[j]? = some u → ∃ vs, vss[j / k]? = some vs ∧ vs[j % k]? = some u
  | [], j, u, _, h => by cases h
  | x :: l, j, u, hk, h => by
    have hx := hk x (by simp)
    rw [List.flatten_cons] at h
    by_cases hj : j < k
    · rw [List.getElem?_append_left (by omega)] at h
      rw [Nat.div_eq_of_lt hj, Nat.mod_eq_of_lt hj]
      exact ⟨x, rfl, h⟩
    · rw [List.getElem?_append_right (by omega), hx] at h
      obtain ⟨vs, h1, h2⟩ := at_flatten hp l (j - k) u (fun y hy => hk y (by simp [hy])) h
      rw [Nat.div_eq_sub_div hp (by omega), Nat.mod_eq_sub_mod (by omega)]
      exact ⟨vs, h1, h2⟩
theorem flatten_len {k : Nat} : ∀ (vss : List (List Value)), (∀ vs ∈ vss, vs.length = k) → vss.flatten.length = vss.length * k
  | [], _ => by simp
  | x :: l, hk => by
    rw [List.flatten_cons, List.length_append, hk x (by simp), flatten_len l (fun y hy => hk y (by simp [hy])), List.length_cons, Nat.add_mul]
    omega
theorem SliceR.cellss {α : Type} {t : TypeId} {k : Nat} {R : Rd α} {own : Bool} {w : World} {S : Nat → Prop} {v : Value} : ∀ {xs : List α}, SliceR t k R own w S v xs →
    ∃ vss : List (List Value), vss.length = xs.length ∧ (∀ vs ∈ vss, vs.length = k) ∧ ∀ i x, xs[i]? = some x → ∃ vs, vss[i]? = some vs ∧ R w S vs x ∧ ∃ a n c, v = .slice (some a) n c ∧ ∀ j u, vs[j]? = some u → w.cell? (a.add (i * k + j)) = some u := by
  intro xs h
  obtain ⟨a, c, rfl, _, _, ⟨rfl, _⟩ | ⟨b, o, rfl, hb, hz, hf, he⟩⟩ := h
  · exact ⟨[], rfl, (fun _ h => by cases h), fun i x hx => by cases hx⟩
  · classical
    have hc : ∀ i : Fin xs.length, ∃ vs : List Value, vs.length = k ∧ R w S vs xs[i] ∧ ∀ j u, vs[j]? = some u → w.cell? ⟨b, o + i * k + j, none⟩ = some u := fun i => he i _ (List.getElem?_eq_getElem i.2)
    refine ⟨List.ofFn fun i => Classical.choose (hc i), by simp, fun vs hvs => ?_, fun i x hx => ?_⟩
    · obtain ⟨i, rfl⟩ := List.mem_ofFn.1 hvs
      exact (Classical.choose_spec (hc i)).1
    · have hi := (List.getElem?_eq_some_iff.1 hx).1
      have hxe : xs[i] = x := (List.getElem?_eq_some_iff.1 hx).2
      have := Classical.choose_spec (hc ⟨i, hi⟩)
      subst hxe
      refine ⟨_, by rw [List.getElem?_ofFn, dif_pos hi], this.2.1, ⟨b, o, none⟩, _, c, rfl, fun j u hu => ?_⟩
      have h3 := this.2.2 j u hu
      rw [show (⟨b, o, none⟩ : Addr).add (i * k + j) = ⟨b, o + i * k + j, none⟩ by unfold Addr.add; split <;> simp_all <;> omega]
      exact h3
theorem SliceR.src {P : Program} {st t : TypeId} {k : Nat} (hT : RowT P st t k) {α : Type} {R : Rd α} (hk : 0 < k) (hones : ∀ w S vs x, R w S vs x → ∀ u ∈ vs, u.oneCell' = true) {own : Bool} {w : World} {S : Nat → Prop} {v : Value} {xs : List α} (h : SliceR t k R own w S v xs) :
    ∃ news : List Value, Src P k st v xs.length news w ∧ ∀ i x, xs[i]? = some x → ∃ vs, vs.length = k ∧ R w S vs x ∧ ∀ j u, vs[j]? = some u → news[i * k + j]? = some u := by
  obtain ⟨vss, h1, h2, h3⟩ := h.cellss
  have hlen := flatten_len vss h2
  obtain ⟨a, c, rfl, _, _⟩ := id h
  refine ⟨vss.flatten, ?_, fun i x hx => ?_⟩
  · have hone : ∀ u ∈ vss.flatten, u.oneCell' = true := by
      intro u hu
      obtain ⟨vs, hvs, hu⟩ := List.mem_flatten.1 hu
      obtain ⟨i, hi⟩ := List.getElem?_of_mem hvs
      have hil := (List.getElem?_eq_some_iff.1 hi).1
      obtain ⟨vs', g1, g2, _⟩ := h3 i xs[i] (List.getElem?_eq_getElem (by omega))
      rw [hi] at g1
      cases g1
      exact hones _ _ _ _ g2 u hu
    cases a with
    | none =>
      have hx : xs = [] := by
        cases xs with
        | nil => rfl
        | cons x l => obtain ⟨vs, _, _, a, _, _, e, _⟩ := h3 0 x rfl; cases e
      subst hx
      rw [List.length_eq_zero_iff.1 h1]
      exact Src.ofNil w hT.under c
    | some a =>
      refine Src.ofSlice w hT.under a xs.length c _ (by rw [hlen, h1]) (fun j u hu => ?_) hone
      obtain ⟨vs, g1, g2⟩ := at_flatten hk vss j u h2 hu
      have hil := (List.getElem?_eq_some_iff.1 g1).1
      obtain ⟨vs', g3, _, a', _, _, e, g4⟩ := h3 (j / k) _ (List.getElem?_eq_getElem (by omega))
      rw [g1] at g3
      cases g3
      cases e
      have := g4 _ u g2
      rwa [Nat.div_add_mod' j k] at this
  · obtain ⟨vs, g1, g2, _⟩ := h3 i x hx
    exact ⟨vs, h2 vs (List.mem_of_getElem? g1), g2, fun j u hu => flatten_at vss i vs j u h2 g1 hu⟩
theorem src_one {P : Program} {st t : TypeId} {k : Nat} (hT : RowT P st t k) (w : World) (l : List Value) (hl : l.length = k) (h1 : ∀ u ∈ l, u.oneCell' = true) (c : Nat) : Src P k st (.slice (some ⟨w.heap.size, 0, none⟩) 1 c) 1 l (w.alloc (.cells l.toArray t)) :=
  Src.ofSlice _ hT.under _ 1 c l (by omega) (fun j u hu => by
    rw [show (⟨w.heap.size, 0, none⟩ : Addr).add j = ⟨w.heap.size, j, none⟩ by unfold Addr.add; split <;> simp_all]
    rw [World.cell?, World.alloc_heap_new]
    simpa using hu) h1
def NewsR {α : Type} (k : Nat) (R : Rd α) (w : World) (S : Nat → Prop) (news : List Value) (ys : List α) : Prop :=
  ∀ i y, ys[i]? = some y → ∃ vs, vs.length = k ∧ R w S vs y ∧ ∀ j u, vs[j]? = some u → news[i * k + j]? = some u
theorem NewsR.one {α : Type} {k : Nat} {R : Rd α} {w : World} {S : Nat → Prop} {l : List Value} {y : α} (hl : l.length = k) (h : R w S l y) : NewsR k R w S l [y] := fun i x hx => by
  match i, hx with
  | 0, hx => cases hx; exact ⟨l, hl, h, fun j u hu => by rw [Nat.zero_mul, Nat.zero_add]; exact hu⟩
theorem flat_eq_flatten {α : Type} (enc : α → List Value) (xs : List α) : xs.flatMap enc = (xs.map enc).flatten := List.flatMap_def ..
theorem flat_len {α : Type} {k : Nat} {enc : α → List Value} (hk : ∀ x, (enc x).length = k) (xs : List α) : (xs.flatMap enc).length = xs.length * k := by
  rw [flat_eq_flatten, flatten_len _ (fun vs h => by obtain ⟨x, _, rfl⟩ := List.mem_map.1 h; exact hk x), List.length_map]
theorem newsR_flat {α : Type} {k : Nat} {enc : α → List Value} (hk : ∀ x, (enc x).length = k) (w : World) (S : Nat → Prop) (xs : List α) : NewsR k (rdOf enc) w S (xs.flatMap enc) xs := fun i y hy =>
  ⟨enc y, hk y, rfl, fun j u hu => by
    rw [flat_eq_flatten]
    exact flatten_at _ i (enc y) j u (fun vs h => by obtain ⟨x, _, rfl⟩ := List.mem_map.1 h; exact hk x) (by rw [List.getElem?_map, hy]; rfl) hu⟩
theorem news_flat {α : Type} {k : Nat} {enc : α → List Value} (hp : 0 < k) (hk : ∀ x, (enc x).length = k) {w : World} {S : Nat → Prop} {news : List Value} {xs : List α} (hl : news.length = xs.length * k) (h : NewsR k (rdOf enc) w S news xs) : news = xs.flatMap enc := by
  apply List.ext_getElem?
  intro j
  by_cases hj : j < xs.length * k
  · have hi : j / k < xs.length := Nat.div_lt_of_lt_mul (by rw [Nat.mul_comm]; exact hj)
    have hm : j % k < k := Nat.mod_lt _ hp
    obtain ⟨vs, h1, h2, h3⟩ := h (j / k) xs[j / k] (List.getElem?_eq_getElem hi)
    obtain ⟨vs', h1', h2', h3'⟩ := newsR_flat hk w S xs (j / k) xs[j / k] (List.getElem?_eq_getElem hi)
    have e : vs = vs' := by rw [show vs = _ from h2, show vs' = _ from h2']
    subst e
    have hu : vs[j % k]? = some vs[j % k] := List.getElem?_eq_getElem (by omega)
    have a1 := h3 _ _ hu
    have a2 := h3' _ _ hu
    rw [Nat.div_add_mod' j k] at a1 a2
    rw [a1, a2]
  · rw [List.getElem?_eq_none (by omega), List.getElem?_eq_none (by rw [flat_len hk]; omega)]
theorem SliceR.src_flat {P : Program} {st t : TypeId} {k : Nat} (hT : RowT P st t k) {α : Type} {enc : α → List Value} (hE : Elt t k (rdOf enc)) {own : Bool} {w : World} {S : Nat → Prop} {v : Value} {xs : List α} (h : SliceR t k (rdOf enc) own w S v xs) : Src P k st v xs.length (xs.flatMap enc) w := by
  obtain ⟨news, h1, h2⟩ := h.src hT hE.pos hE.ones
  have hk : ∀ x, (enc x).length = k := fun x => hE.len w S _ x rfl
  rw [← news_flat hE.pos hk h1.newsLen h2]
  exact h1
theorem append_R {P : Program} {st tx ty t : TypeId} {k : Nat} (hT : RowT P st t k) {α : Type} {R : Rd α} (hE : Elt t k R) {w : World} {n : Nat} {v x : Value} {xs ys : List α} {news : List Value}
    (h1 : SliceR t k R true w (fun b => n ≤ b) v xs) (hn : n ≤ w.heap.size) (hs : Src P k tx x ys.length news w) (hnew : NewsR k R w (fun b => n ≤ b) news ys) (hlen : xs.length + ys.length ≤ 100000000) :
    ∃ v' w', (Builtin.append_ #[st, tx] ty #[v, x]).run P w = .ok v' w' ∧ SliceR t k R true w' (fun b => n ≤ b) v' (xs ++ ys) ∧ Below n w w' ∧ w.grownBy w' v.ownBlock ∧ (v'.ownBlock = v.ownBlock ∨ v'.ownBlock = some w.heap.size) := by
  obtain ⟨i, z, hi, hz, rfl, hby, hzs⟩ := hT.info
  obtain ⟨a, c, rfl, hc, hcm, hx⟩ := h1
  have hbytes : (xs.length + ys.length) * i.bytes ≤ 140737488355328 := Nat.le_trans (Nat.mul_le_mul hlen hby) (by decide)
  by_cases hroom : xs.length + ys.length ≤ c
  · rcases hx with ⟨rfl, h0⟩ | ⟨b, o, rfl, hb, hzb, hf, he⟩
    · have h0 := h0 rfl
      have hy : ys = [] := List.length_eq_zero_iff.1 (by simp at hroom; omega)
      subst hy
      have hnl : news = [] := List.length_eq_zero_iff.1 (by simpa using hs.newsLen)
      refine ⟨.slice a 0 c, w, ?_, ⟨a, c, rfl, Nat.zero_le _, hcm, .inl ⟨rfl, fun _ => h0⟩⟩, Below.refl _ _, ⟨rfl, rfl, rfl, Nat.le_refl _, fun _ _ _ => rfl⟩, .inl rfl⟩
      have hcl : (Builtin.firstCells i.size 0 x).run P w = .ok #[] w := by
        have := hs.cells
        rw [hnl] at this
        exact this
      rcases hs.kind with ⟨e', hk⟩ | hk <;> cases a <;>
        simp [Builtin.append_, run_underlying hT.under, run_underlying hk, sizeOf, typeInfo, hi, hs.len, h0, hcl, storeCells, Result.andThen]
    · obtain ⟨cs, g1, g2⟩ := hf rfl
      have hfit : o + xs.length * i.size + news.length ≤ cs.size := by
        rw [hs.newsLen]
        have : xs.length * i.size + ys.length * i.size ≤ c * i.size := by rw [← Nat.add_mul]; exact Nat.mul_le_mul_right _ hroom
        omega
      have hrun := run_append_room_src (P := P) w st tx ty t i hT.under hi b o xs.length c x ys.length news hs hroom
        (fun j hj => by rw [cell_of_heap g1, Array.getElem?_eq_getElem (by omega)]; rfl) (fun j hj => by rw [World.frozen?, g1]; simp)
      obtain ⟨cs', k1, k2, k3, k4⟩ := setCells_heap news w b (o + xs.length * i.size) cs t (0, 0) g1 (by omega)
      have hoth := setCells_other b news (o + xs.length * i.size) w
      have hsz := setCells_size b news (o + xs.length * i.size) w
      have hrest := setCells_rest b news (o + xs.length * i.size) w
      have hkeepR : ∀ vs x, R w (fun b => n ≤ b) vs x → R (w.setCells b (o + xs.length * i.size) news) (fun b => n ≤ b) vs x := fun vs x h =>
        hE.tag.go _ _ _ _ _ _ h (Nat.le_of_eq hsz.symm) (fun b' _ _ hno => hoth b' (fun e => hno cs (e ▸ g1))) (fun _ h _ => h)
      refine ⟨_, _, hrun, ⟨_, c, by rw [List.length_append], by rw [List.length_append]; exact hroom, hcm, .inr ⟨b, o, rfl, hb, by rw [hsz]; exact hzb, fun _ => ⟨cs', k1, by omega⟩, fun q y hq => ?_⟩⟩, setCells_below hb, ⟨hrest.1, hrest.2.1, hrest.2.2, Nat.le_of_eq hsz.symm, fun d _ hd => hoth d (fun e => hd (by rw [e]; rfl))⟩, .inl rfl⟩
      by_cases hqx : q < xs.length
      · rw [List.getElem?_append_left hqx] at hq
        obtain ⟨vs, r1, r2, r3⟩ := he q y hq
        refine ⟨vs, r1, hkeepR _ _ r2, fun j u hu => ?_⟩
        have hj := (List.getElem?_eq_some_iff.1 hu).1
        have hle : q * i.size + i.size ≤ xs.length * i.size := by rw [← Nat.succ_mul]; exact Nat.mul_le_mul_right _ hqx
        rw [cell_of_heap k1, k3 _ (.inl (by omega)), ← cell_of_heap g1]
        exact r3 j u hu
      · rw [List.getElem?_append_right (by omega)] at hq
        obtain ⟨vs, r1, r2, r3⟩ := hnew _ y hq
        refine ⟨vs, r1, hkeepR _ _ r2, fun j u hu => ?_⟩
        have := k4 _ u (r3 j u hu)
        rw [cell_of_heap k1, show o + q * i.size + j = o + xs.length * i.size + ((q - xs.length) * i.size + j) by
          have : q * i.size = xs.length * i.size + (q - xs.length) * i.size := by rw [← Nat.add_mul]; congr 1; omega
          omega]
        exact this
  · -- it grows
    obtain ⟨olds, ho1, ho2⟩ : ∃ olds : List Value, (Builtin.firstCells i.size xs.length (.slice a xs.length c)).run P w.drew = .ok olds.toArray w.drew ∧ NewsR i.size R w (fun b => n ≤ b) olds xs ∧ olds.length = xs.length * i.size := by
      obtain ⟨news', q1, q2⟩ := SliceR.src (P := P) (st := st) hT hE.pos hE.ones (own := true) (w := w) (S := fun b => n ≤ b) (v := .slice a xs.length c) (xs := xs) ⟨a, c, rfl, hc, hcm, hx⟩
      exact ⟨news', q1.cellsD, q2, q1.newsLen⟩
    have hrun := run_append_grow_src (P := P) w st tx ty t i z hT.under hi hz a xs.length c olds ho1 x ys.length news hs (by omega) (by omega) (growslice_fits (by omega) hbytes)
    have hge := grownCap_ge w (xs.length + ys.length) c t
    have hcm' := grownCap_le_maxLen w (xs.length + ys.length) c t (by unfold maxLen; omega)
    generalize hG : grownCap w (xs.length + ys.length) c t = G at *
    refine ⟨_, _, hrun, ⟨_, G, by rw [List.length_append], by rw [List.length_append]; exact hge, hcm', .inr ⟨w.heap.size, 0, rfl, hn, by simp, fun _ => ⟨_, World.alloc_heap_new _ _, ?_⟩, fun q y hq => ?_⟩⟩, ((Below.refl _ _).drew).alloc hn _, ⟨rfl, rfl, rfl, by simp, fun d hd _ => Below.heap_alloc _ _ _ hd⟩, .inr rfl⟩
    · simp only [Array.size_append, List.size_toArray, List.length_append, size_zeroCells, hzs, ho2.2, hs.newsLen]
      have h9 : (xs.length + ys.length) * i.size + (G - (xs.length + ys.length)) * i.size = G * i.size := by rw [← Nat.add_mul]; congr 1; omega
      rw [Nat.add_mul] at h9
      omega
    · have hK : Keeps (fun b => n ≤ b) w (w.drew.alloc (.cells ((olds ++ news).toArray ++ Builtin.zeroCells z.cells (G - (xs.length + ys.length))) t)) :=
        Keeps.all (((Below.refl _ _).drew).alloc (Nat.le_refl _) _)
      have hcell : ∀ j u, (olds ++ news)[j]? = some u → (w.drew.alloc (.cells ((olds ++ news).toArray ++ Builtin.zeroCells z.cells (G - (xs.length + ys.length))) t)).cell? ⟨w.heap.size, j, none⟩ = some u := by
        intro j u hu
        have hj := (List.getElem?_eq_some_iff.1 hu).1
        rw [cell_of_heap (w := w.drew.alloc _) (B := w.heap.size) (World.alloc_heap_new w.drew _), Array.getElem?_append_left (by simpa using hj)]
        simpa using hu
      by_cases hqx : q < xs.length
      · rw [List.getElem?_append_left hqx] at hq
        obtain ⟨vs, r1, r2, r3⟩ := ho2.1 q y hq
        refine ⟨vs, r1, hE.st.go _ _ _ _ _ _ r2 hK (fun _ h _ => h), fun j u hu => ?_⟩
        have h3 := r3 j u hu
        rw [Nat.zero_add]
        exact hcell _ u (by rw [List.getElem?_append_left (List.getElem?_eq_some_iff.1 h3).1]; exact h3)
      · rw [List.getElem?_append_right (by omega)] at hq
        obtain ⟨vs, r1, r2, r3⟩ := hnew _ y hq
        refine ⟨vs, r1, hE.st.go _ _ _ _ _ _ r2 hK (fun _ h _ => h), fun j u hu => ?_⟩
        have h3 := r3 j u hu
        rw [Nat.zero_add]
        refine hcell _ u ?_
        rw [show q * i.size + j = olds.length + ((q - xs.length) * i.size + j) by
          rw [ho2.2]
          have : q * i.size = xs.length * i.size + (q - xs.length) * i.size := by rw [← Nat.add_mul]; congr 1; omega
          omega, List.getElem?_append_right (by omega)]
        simpa using h3
theorem wpList_append_R {P : Program} (w : World) {ops : Array Oper} {rest : List Oper} {o : Oper} {a : Act} {Q : Exit → Act → World → Prop} (hgd : o.guard = none) (s x : Operand) (st tx : TypeId)
    (ho : o.op = .call { callee := .builtin .append, args := #[s, x], argTypes := #[st, tx] }) {t : TypeId} {k : Nat} (hT : RowT P st t k) {α : Type} {R : Rd α} (hE : Elt t k R) (n : Nat) (v y : Value) {xs ys : List α} {news : List Value} (hs : a.eval s = v) (hx : a.eval x = y)
    (h1 : SliceR t k R true w (fun b => n ≤ b) v xs) (hn : n ≤ w.heap.size) (hsrc : Src P k tx y ys.length news w) (hnew : NewsR k R w (fun b => n ≤ b) news ys) (hlen : xs.length + ys.length ≤ 100000000)
    (h : ∀ v' w', SliceR t k R true w' (fun b => n ≤ b) v' (xs ++ ys) → Below n w w' → w.grownBy w' v.ownBlock → (v'.ownBlock = v.ownBlock ∨ v'.ownBlock = some w.heap.size) → wpList P ops Q rest (a.put o.dst v') w') :
    wpList P ops Q (o :: rest) a w := by
  refine wpList_plain hgd fun K hK => ?_
  obtain ⟨v', w', hr, h2, h3, h4, h5⟩ := append_R (P := P) (ty := o.type) hT hE h1 hn hsrc hnew hlen
  unfold Oper.wp execOp
  simp only [ho, resolve, invoke, builtin, Sem.run_bind, Sem.run_pure, Result.andThen_ok, List.map_toArray, List.map_cons, List.map_nil, hs, hx, hr]
  exact hK _ _ (h v' w' h2 h3 h4 h5)
end Go.Proofs.Qw
namespace Go.Proofs.Qw
open Go.RowKit Go.Proofs.YtgeaijnelopkbaaDoor
theorem RowT.zero {P : Program} {st t : TypeId} {k : Nat} (hT : RowT P st t k) {z : Value} (hz : (P.info? t).bind (·.zero) = some z) : ∃ i, P.info? t = some i ∧ i.zero = some z ∧ i.size = k ∧ i.bytes ≤ 256 ∧ z.cells.size = k := by
  obtain ⟨i, z', h1, h2, h3, h4, h5⟩ := hT.info
  rw [h1] at hz
  simp only [Option.bind_some] at hz
  rw [h2] at hz
  cases hz
  exact ⟨i, h1, h2, h3, h4, h5⟩
theorem Keeps.only {S : Nat → Prop} {w w' : World} {b : Nat} (hs : w'.heap.size = w.heap.size) (h : ∀ d, d ≠ b → w'.heap[d]? = w.heap[d]?) (hb : ¬ S b) : Keeps S w w' := ⟨Nat.le_of_eq hs.symm, fun d hd _ => h d (fun e => hb (e ▸ hd))⟩
end Go.Proofs.Qw
namespace Go.Proofs.YtgeaijnelopkbaaDoor
open Go.RowKit
open Go.Proofs.Qw
set_option maxHeartbeats 1000000 in
theorem class_any (c : Int) (w : World) :
    Calls Tryd.prog 84 #[.int .i32 c] w fun e w' => e = .returned (.int .i64 (classF c)) ∧ w' = w := by
  go_enter Tryd.func84, Tryd.ntmps84
  go_wp2_with (go_at_call 102; refine (Tryd.utf8_ValidRune c w).mono ?_; rintro e w' ⟨rfl, rfl⟩)
  all_goals
    go_ret
    refine ⟨?_, rfl⟩
    refine congrArg Ending.returned (int_eq ?_)
    simp only [Bool.not_eq_true', Bool.not_eq_false', beq_iff_eq, beq_eq_false_iff_ne] at *
    unfold classF
    (repeat' split) <;> first | rfl | omega | simp_all
set_option maxHeartbeats 400000 in
theorem charMay_any (c : Int) (w : World) :
    Calls Tryd.prog 69 #[.int .i32 c] w fun e w' => e = .returned (.bool (mayR c)) ∧ w' = w := by
  go_enter Tryd.func69, Tryd.ntmps69
  go_wp2_with (go_at_call 84; refine (class_any c w).mono ?_; rintro e w' ⟨rfl, rfl⟩)
  go_ret
  exact ⟨rfl, rfl⟩
end Go.Proofs.YtgeaijnelopkbaaDoor
namespace Go.Proofs.YtgeaijnelopkbaaDoor
open Go.RowKit
open Go.Proofs.Qw
def EnvT (w : World) : Prop := Env w ∧ Lib.Utf8Tabs 0 1 w
theorem EnvT.below {w w' : World} (h : EnvT w) (hb : Below w.heap.size w w') : EnvT w' := ⟨h.1.below hb, Utf8Tabs_below h.2 hb⟩
theorem runesGo_step {s : ByteArray} {f pos : Nat} (h : pos < s.size) : runesGo s (f + 1) pos = ((Utf8.decode s pos).1 : Int) :: runesGo s f (pos + (Utf8.decode s pos).2) := by rw [runesGo, if_pos h]
theorem runesGo_end {s : ByteArray} {f pos : Nat} (h : ¬ pos < s.size) : runesGo s f pos = [] := by
  cases f with
  | zero => rfl
  | succ f => rw [runesGo, if_neg h]
theorem width_pos (s : ByteArray) (pos : Nat) (h : pos < s.size) : 0 < (Utf8.decode s pos).2 := by
  by_cases ha : (s[pos]'h).toNat < 128
  · rw [decode_ascii s pos h ha]; exact Nat.le_refl _
  · exact (decode_high s pos h (by omega)).2
set_option maxHeartbeats 1000000 in
theorem value_any (s : ByteArray) (w : World) (he : EnvT w) (hs : s.size ≤ 1000000) :
    Calls Tryd.prog 49 #[.string s] w fun e w' => e = .returned (.bool (valueB s)) ∧ Below w.heap.size w w' := by
  go_enter Tryd.func49, Tryd.ntmps49
  go_wp2_with fail
  have HV : Hid (∀ b, (runesB s).all mayR = b → valueB s = (b && (decide (s.size ≤ 200) && Lib.validD s.data.toList))) := Lib.hid (fun b h => by rw [← h]; rfl)
  go_loopw [] (fun wr => ∃ (pos fuel : Nat), wr.heap[w.heap.size]? = some (.stringIter s pos) ∧ Below w.heap.size w wr ∧ (runesB s).all mayR = (runesGo s fuel pos).all mayR ∧ s.size ≤ pos + fuel) (fun wr => s.size - wr.iterPos w.heap.size)
  case atStart =>
    refine ⟨0, s.size, ?_, (Below.refl _ w).alloc (Nat.le_refl _) _, rfl, by omega⟩
    exact World.iter_heap w s 0
  case round =>
    obtain ⟨pos, fuel, hit, hbw, hacc, hfu⟩ := hrel
    have hsz : w.heap.size < wr.heap.size := (Array.getElem?_eq_some_iff.1 hit).1
    have HA := Lib.hid hacc
    clear hacc
    by_cases hp : pos < s.size
    · have hnx : ∀ ty, (Instr.next (.pointer (some ⟨w.heap.size, 0, none⟩)) true ty).run Tryd.prog wr = _ := fun ty => Lib.run_next_any_at wr w.heap.size s pos ty hit hp
      have hwd := width_pos s pos hp
      have hit2 := Lib.iterAt_heap wr w.heap.size s pos (pos + (Utf8.decode s pos).2) hit
      have hbw2 := Lib.below_iterAt hbw (k := w.heap.size) (by omega) s (pos + (Utf8.decode s pos).2)
      obtain ⟨f, rfl⟩ : ∃ f, fuel = f + 1 := ⟨fuel - 1, by omega⟩
      obtain ⟨r, hr⟩ : ∃ r, mayR ((Utf8.decode s pos).1 : Int) = r := ⟨_, rfl⟩
      have HR : Hid ((runesB s).all mayR = (r && (runesGo s f (pos + (Utf8.decode s pos).2)).all mayR)) := Lib.hid (by rw [HA.out, runesGo_step hp, List.all_cons, hr])
      have HC : Hid (∀ W, Calls Tryd.prog 69 #[.int .i32 (Utf8.decode s pos).1] W fun e w' => e = .returned (.bool r) ∧ w' = W) := Lib.hid (fun W => hr ▸ charMay_any _ W)
      clear hr
      go_wp2_with (go_at_call 69; refine (HC.out _).mono ?_; rintro e W1 ⟨rfl, rfl⟩; cases r)
      · go_ret
        exact ⟨by rw [HV.out _ HR.out]; rfl, hbw2⟩
      · go_roundw
        case rel => exact ⟨pos + (Utf8.decode s pos).2, f, hit2, hbw2, HR.out, by omega⟩
        case measure =>
          have e1 : wr.iterPos w.heap.size = pos := by unfold World.iterPos; rw [hit]
          have e2 : (wr.iterAt w.heap.size s (pos + (Utf8.decode s pos).2)).iterPos w.heap.size = pos + (Utf8.decode s pos).2 := by unfold World.iterPos; rw [hit2]
          rw [e1, e2]
          omega
    · have hnx : ∀ ty, (Instr.next (.pointer (some ⟨w.heap.size, 0, none⟩)) true ty).run Tryd.prog wr = _ := fun ty => Lib.run_next_end_at wr w.heap.size s pos ty hit hp
      have HT : Hid (valueB s = (true && (decide (s.size ≤ 200) && Lib.validD s.data.toList))) := Lib.hid (HV.out _ (HA.out.trans (by rw [runesGo_end hp]; rfl)))
      have heW := he.below hbw
      go_wp2_with (go_at_call 70; refine (Tryd.utf8_ValidString s _ (by omega) heW.2).mono ?_; rintro e W1 ⟨rfl, hb1⟩)
      · go_ret
        refine ⟨?_, hbw.trans (hb1.mono hbw.size)⟩
        rw [HT.out, decide_eq_true (by omega)]
        rfl
      · go_ret
        refine ⟨?_, hbw⟩
        rw [HT.out, decide_eq_false (by omega)]
        rfl
theorem lowR_any (c : Int) (w : World) (h1 : 0 ≤ c) (h2 : c ≤ 1114111) :
    Calls Tryd.prog 48 #[.int .i32 c] w fun e w' => e = .returned (.int .i32 (lowR c)) ∧ w' = w := by
  unfold lowR
  go_enter Tryd.func48, Tryd.ntmps48
  go_wp2_with fail
  all_goals
    go_ret
    refine ⟨?_, rfl⟩
    refine congrArg Ending.returned (int_eq ?_)
  all_goals first
    | rfl
    | (rw [if_pos ⟨by assumption, by assumption⟩]; rfl)
    | (rw [if_neg (by omega)]; rfl)
theorem byte_head (s : ByteArray) (h : 0 < s.size) : s.data.toList.head? = some s[0] := by
  rw [List.head?_eq_getElem?, Array.getElem?_toList, Array.getElem?_eq_getElem h]; rfl
theorem byte_last (s : ByteArray) (h : 0 < s.size) : s.data.toList.getLast? = some s[s.size - 1] := by
  rw [List.getLast?_eq_getElem?, Array.length_toList, Array.getElem?_toList, Array.getElem?_eq_getElem (by show s.size - 1 < s.size; omega)]; rfl
theorem byte_ne {o : Option UInt8} {b : UInt8} (h : o = some b) : decide (o ≠ some 32) = ((b.toNat : Int) != 32) := by
  subst h
  by_cases e : b = 32
  · subst e; rfl
  · have e2 : ¬ (b.toNat : Int) = 32 := fun h => e (UInt8.toNat_inj.1 (by simpa using Int.ofNat.inj h))
    simp [e, e2]
theorem lowR_grows (w : World) : MapGrows Tryd.prog 48 #[] lowR w := fun W x hx _ => (lowR_any (x : Int) W (by omega) (by omega)).mono fun _ _ ⟨h1, h2⟩ => ⟨h1, h2 ▸ Below.refl _ _⟩
theorem lowR_bound : ∀ x : Nat, x ≤ 1114111 → -2147483648 ≤ lowR x ∧ lowR x ≤ 2147483647 := by
  intro x h
  unfold lowR
  split <;> omega
set_option maxHeartbeats 1000000 in
theorem target_any (s : ByteArray) (w : World) (he : EnvT w) (hs : s.size ≤ 1000000) :
    Calls Tryd.prog 26 #[.string s] w fun e w' => e = .returned (.bool (targetF s.data.toList)) ∧ Below w.heap.size w w' := by
  obtain ⟨js, hjs⟩ : ∃ x, Lib.mapD lowR (Lib.cut s.data.toList [58]).1 = x := ⟨_, rfl⟩
  obtain ⟨cut, hcut⟩ : ∃ x, Lib.cut s.data.toList [58] = x := ⟨_, rfl⟩
  obtain ⟨vb, hvb⟩ : ∃ x, valueB s = x := ⟨_, rfl⟩
  have HT : Hid (targetF s.data.toList = (vb && (decide (s.data.toList ≠ []) && (decide (s.data.toList.head? ≠ some 32) && (decide (s.data.toList.getLast? ≠ some 32) && !(js == javascript)))))) := Lib.hid (by
    unfold targetF valueF
    rw [hjs, ← hvb])
  have hcl : cut.1.length ≤ s.size := by
    have hl : s.data.toList.length = s.size := Array.length_toList
    rw [← hcut]
    unfold Lib.cut
    split
    · simp; omega
    · simp
  rw [hcut] at hjs
  have HC1 : Hid (∀ W, EnvT W → Calls Tryd.prog 46 #[.string s, .string ⟨#[58]⟩] W fun e w' => e = .returned (.tuple #[.string ⟨cut.1.toArray⟩, .string ⟨cut.2.1.toArray⟩, .bool cut.2.2]) ∧ Below W.heap.size W w') := Lib.hid fun W hW => (Tryd.strings_Cut_shaped s ⟨#[58]⟩ W hW.1 (by omega)).mono fun _ _ ⟨h1, n, h2⟩ => ⟨by rw [h1, ← hcut], h2 ▸ below_drewNm W n⟩
  have HC2 : Hid (∀ W, EnvT W → Calls Tryd.prog 47 #[.func (.func 48) #[] #[], .string ⟨cut.1.toArray⟩] W fun e w' => e = .returned (.string ⟨js.toArray⟩) ∧ Below W.heap.size W w') := Lib.hid fun W hW => by
    have := Tryd.strings_Map_grows 48 #[] (enters_of Tryd.func48 (by kernel_rfl) rfl) lowR ⟨cut.1.toArray⟩ W (by show cut.1.toArray.size < _; simp; omega) (lowR_grows W) lowR_bound hW.2
    rw [← hjs]
    exact this
  have HC3 : Hid (∀ W, EnvT W → Calls Tryd.prog 49 #[.string s] W fun e w' => e = .returned (.bool vb) ∧ Below W.heap.size W w') := Lib.hid fun W hW => hvb ▸ value_any s W hW hs
  clear hjs hcut hvb
  go_enter Tryd.func26, Tryd.ntmps26
  go_wp2_with (go_at_call 46; refine (HC1.out _ he).mono ?_; rintro e w1 ⟨rfl, hb1⟩; have he1 := he.below hb1)
  go_wp2_with (go_at_call 47; refine (HC2.out _ he1).mono ?_; rintro e w2 ⟨rfl, hb2⟩; have he2 := he1.below hb2)
  have hb12 := hb1.trans (hb2.mono hb1.size)
  clear HC1 HC2 hb1 hb2 he he1
  rcases Nat.eq_zero_or_pos s.size with hz | hz
  · have hnil : s.data.toList = [] := List.length_eq_zero_iff.1 (by rw [Array.length_toList]; exact hz)
    have HF : Hid (targetF s.data.toList = false) := Lib.hid (by rw [HT.out, hnil]; simp)
    have hne2 : s.toList.isEmpty = true := by rw [toList_eq, hnil]; rfl
    have hcon : s.size - 1 < s.size → False := by omega
    clear HT hnil
    go_wp2_with (go_at_call 49; refine (HC3.out _ he2).mono ?_; rintro e w3 ⟨rfl, hb3⟩; cases vb)
    all_goals
      go_ret
      refine ⟨?_, hb12.trans (hb3.mono hb12.size)⟩
      rw [HF.out]
      refine congrArg Ending.returned (congrArg Value.bool ?_)
    all_goals simp_all
  · have hne : s.data.toList ≠ [] := by
      intro e
      have h2 : s.data.toList.length = s.size := Array.length_toList
      rw [e, List.length_nil] at h2
      omega
    have h0 := byte_ne (byte_head s hz)
    have h1 := byte_ne (byte_last s hz)
    have HN : Hid (targetF s.data.toList = (vb && (((s[0].toNat : Int) != 32) && (((s[s.size - 1].toNat : Int) != 32) && !(js == javascript))))) := Lib.hid (by
      rw [HT.out, h0, h1, decide_eq_true hne, Bool.true_and])
    have hne2 : s.toList.isEmpty = false := by rw [toList_eq]; simpa using hne
    clear h0 h1 HT hne
    unfold javascript at HN
    go_wp2_with (go_at_call 49; refine (HC3.out _ he2).mono ?_; rintro e w3 ⟨rfl, hb3⟩; cases vb)
    all_goals
      go_ret
      refine ⟨?_, hb12.trans (hb3.mono hb12.size)⟩
      rw [HN.out]
    all_goals refine congrArg Ending.returned (congrArg Value.bool ?_)
    all_goals first | (simp_all; done) | (rw [Bool.true_and, Bool.and_assoc]) | (simp_all [Bool.and_assoc])
end Go.Proofs.YtgeaijnelopkbaaDoor
namespace Go.Proofs.Qw
open Go.RowKit Go.Proofs.YtgeaijnelopkbaaDoor
theorem encode_eq (r : Int) : (Utf8.encode r).data.toList = Lib.encodeRune r := by
  unfold Utf8.encode Lib.encodeRune Utf8.valid
  by_cases h0 : 0 ≤ r
  · obtain ⟨n, rfl⟩ := Int.eq_ofNat_of_zero_le h0
    simp only [Int.toNat_natCast]
    by_cases hv : (n < 0xD800 ∨ (0xE000 ≤ n ∧ n ≤ 0x10FFFF))
    · have hv' : ((decide ((0 : Int) ≤ (n : Int)) && decide ((n : Int) < 0xD800)) || (decide ((0xE000 : Int) ≤ (n : Int)) && decide ((n : Int) ≤ 0x10FFFF))) = true := by
        rcases hv with h | h
        · simp; omega
        · simp; omega
      rw [hv']
      simp only [if_true]
      by_cases h1 : n < 0x80
      · rw [if_pos h1, Lib.encodeRuneZ_one (by omega) (by omega)]; simp
      · rw [if_neg h1]
        by_cases h2 : n < 0x800
        · rw [if_pos h2, Lib.encodeRuneZ_two (by omega) (by omega)]; simp only [List.map_cons, List.map_nil]; rw [show (192 + (n : Int) / 64).toNat = 192 + n / 64 by omega, show (128 + (n : Int) % 64).toNat = 128 + n % 64 by omega]
        · rw [if_neg h2]
          by_cases h3 : n < 0x10000
          · rw [if_pos h3, Lib.encodeRuneZ_three (by omega)]; simp only [List.map_cons, List.map_nil]; rw [show (224 + (n : Int) / 4096).toNat = 224 + n / 4096 by omega, show (128 + (n : Int) / 64 % 64).toNat = 128 + n / 64 % 64 by omega, show (128 + (n : Int) % 64).toNat = 128 + n % 64 by omega]
          · rw [if_neg h3, Lib.encodeRuneZ_four (by omega) (by omega)]; simp only [List.map_cons, List.map_nil]; rw [show (240 + (n : Int) / 262144).toNat = 240 + n / 262144 by omega, show (128 + (n : Int) / 4096 % 64).toNat = 128 + n / 4096 % 64 by omega, show (128 + (n : Int) / 64 % 64).toNat = 128 + n / 64 % 64 by omega, show (128 + (n : Int) % 64).toNat = 128 + n % 64 by omega]
    · have hv' : ((decide ((0 : Int) ≤ (n : Int)) && decide ((n : Int) < 0xD800)) || (decide ((0xE000 : Int) ≤ (n : Int)) && decide ((n : Int) ≤ 0x10FFFF))) = false := by
        simp; omega
      have e : Lib.encodeRuneZ (n : Int) = [239, 191, 189] := by
        unfold Lib.encodeRuneZ
        rw [if_neg (by omega), if_neg (by omega), if_neg (by omega), if_neg (by omega)]
      rw [hv', e]
      simp only [Bool.false_eq_true, if_false]
      decide
  · have hv' : ((decide ((0 : Int) ≤ r) && decide (r < 0xD800)) || (decide ((0xE000 : Int) ≤ r) && decide (r ≤ 0x10FFFF))) = false := by
      simp; omega
    have e : Lib.encodeRuneZ r = [239, 191, 189] := by
      unfold Lib.encodeRuneZ
      rw [if_neg (by omega), if_neg (by omega), if_neg (by omega), if_neg (by omega)]
    rw [hv', e]
    simp only [Bool.false_eq_true, if_false]
    decide
theorem foldl_bytes (ns : List Int) : ∀ s : ByteArray, (ns.foldl (fun r n => r ++ Utf8.encode n) s).data.toList = s.data.toList ++ ns.flatMap Lib.encodeRune := by
  induction ns with
  | nil => intro s; simp
  | cons n ns ih =>
    intro s
    rw [List.foldl_cons, ih, ByteArray.data_append, Array.toList_append, encode_eq, List.flatMap_cons, List.append_assoc]
theorem runesBytes_eq (ns : List Int) : (runesBytes ns).data.toList = ns.flatMap Lib.encodeRune := by
  unfold runesBytes
  rw [foldl_bytes]
  rfl
def runesL : Nat → List UInt8 → List Int
  | 0, _ => []
  | f + 1, l => if l = [] then [] else ((Lib.decodeL l).1 : Int) :: runesL f (l.drop (Lib.decodeL l).2)
theorem get_drop (s : ByteArray) (pos k : Nat) : (⟨(s.data.toList.drop pos).toArray⟩ : ByteArray).get! k = s.get! (pos + k) := by
  show ((s.data.toList.drop pos).toArray)[k]! = s.data[pos + k]!
  simp [Array.getElem!_eq_getD, Array.getD_eq_getD_getElem?]
theorem decode_drop (s : ByteArray) (pos : Nat) (h : pos < s.size) : Utf8.decode s pos = Lib.decodeL (s.data.toList.drop pos) := by
  unfold Lib.decodeL Utf8.decode
  simp only [get_drop, Nat.zero_add]
  have e : ∀ k, decide (k < (⟨(s.data.toList.drop pos).toArray⟩ : ByteArray).size) = decide (pos + k < s.size) := fun k => by
    rw [decide_eq_decide]
    show k < ((s.data.toList.drop pos).toArray).size ↔ _
    simp
    have hz : s.size = s.data.size := rfl
    omega
  simp only [e]
theorem runesGo_eq (s : ByteArray) : ∀ (f pos : Nat), runesGo s f pos = runesL f (s.data.toList.drop pos)
  | 0, _ => rfl
  | f + 1, pos => by
    by_cases h : pos < s.size
    · have hne : s.data.toList.drop pos ≠ [] := by
        intro e
        have := List.drop_eq_nil_iff.1 e
        rw [Array.length_toList] at this
        exact absurd h (Nat.not_lt.2 this)
      rw [runesGo_step h, runesL, if_neg hne, runesGo_eq s f, decode_drop s pos h, List.drop_drop]
    · rw [runesGo_end h, runesL, if_pos (List.drop_eq_nil_iff.2 (by rw [Array.length_toList]; exact Nat.not_lt.1 h))]
theorem runesL_back : ∀ (f : Nat) (l : List UInt8), l.length ≤ f → ((runesL f l).flatMap Lib.encodeRune = l ↔ Lib.validGoD f l = true) ∧ l.length ≤ ((runesL f l).flatMap Lib.encodeRune).length
  | 0, l, h => by
    have : l = [] := List.length_eq_zero_iff.1 (by omega)
    subst this
    simp [runesL, Lib.validGoD]
  | f + 1, l, h => by
    by_cases hl : l = []
    · subst hl
      simp [runesL, Lib.validGoD]
    · have hw := Lib.decodeL_width l
      have hle := Lib.decodeL_le l hl
      obtain ⟨ih1, ih2⟩ := runesL_back f (l.drop (Lib.decodeL l).2) (by rw [List.length_drop]; omega)
      rw [runesL, if_neg hl, Lib.validGoD, if_neg hl, List.flatMap_cons]
      by_cases hv : (Lib.decodeL l).1 = 65533 ∧ (Lib.decodeL l).2 = 1
      · rw [if_pos hv, hv.1]
        rw [hv.2] at ih2 ⊢
        have h3 : (Lib.encodeRune ((65533 : Nat) : Int)).length = 3 := by decide
        rw [List.length_drop] at ih2
        refine ⟨⟨fun e => ?_, fun e => (by cases e)⟩, by rw [List.length_append, h3]; omega⟩
        have e2 := congrArg List.length e
        rw [List.length_append, h3] at e2
        omega
      · rw [if_neg hv, Lib.encode_decode l hl hv]
        constructor
        · rw [← ih1]
          constructor
          · intro e
            conv at e => rhs; rw [← List.take_append_drop (Lib.decodeL l).2 l]
            exact List.append_cancel_left e
          · intro e
            rw [e, List.take_append_drop]
        · rw [List.length_append, List.length_take]
          rw [List.length_drop] at ih2
          omega
theorem runesB_back (s : ByteArray) : (runesB s).flatMap Lib.encodeRune = s.data.toList ↔ Lib.validD s.data.toList = true := by
  unfold runesB Lib.validD
  rw [runesGo_eq, List.drop_zero]
  have hs : s.size = s.data.toList.length := by rw [Array.length_toList]; rfl
  rw [hs]
  exact (runesL_back _ _ (Nat.le_refl _)).1
theorem runesFrom_eq (s : ByteArray) : ∀ (f pos : Nat) (acc : Array Value), Conv.runesFrom s f pos acc = acc ++ ((runesGo s f pos).map (Value.int .i32)).toArray
  | 0, _, acc => by simp [Conv.runesFrom, runesGo]
  | f + 1, pos, acc => by
    by_cases h : pos < s.size
    · rw [Conv.runesFrom, runesGo, if_pos h, if_pos h]
      show Conv.runesFrom s f (pos + (Utf8.decode s pos).2) (acc.push (.int .i32 (Int.ofNat (Utf8.decode s pos).1))) = _
      rw [runesFrom_eq s f]
      simp
    · rw [Conv.runesFrom, runesGo, if_neg h, if_neg h]
      simp
end Go.Proofs.Qw
namespace Go.Proofs.YtgeaijnelopkbaaDoor
open Go.RowKit
open Go.Proofs.Qw
set_option maxHeartbeats 2000000 in
theorem refClass_any (c : Int) (w : World) :
    Calls Tryd.prog 94 #[.int .i32 c] w fun e w' => e = .returned (.int .i64 (classF c)) ∧ w' = w := by
  go_enter Tryd.func94, Tryd.ntmps94
  go_wp2_with fail
  all_goals
    go_ret
    refine ⟨?_, rfl⟩
    refine congrArg Ending.returned (int_eq ?_)
    (try simp only [beq_iff_eq, beq_eq_false_iff_ne, bne_iff_ne, bne_eq_false_iff_eq, ne_eq] at *)
    unfold classF Lib.validRune
    simp only [decide_eq_false_iff_not]
    (repeat' split) <;> first | rfl | omega | (simp_all; done) | (simp_all; omega)
theorem refCharMay_any (c : Int) (w : World) :
    Calls Tryd.prog 78 #[.int .i32 c] w fun e w' => e = .returned (.bool (mayR c)) ∧ w' = w := by
  go_enter Tryd.func78, Tryd.ntmps78
  go_wp2_with (go_at_call 94; refine (refClass_any c w).mono ?_; rintro e w' ⟨rfl, rfl⟩)
  go_ret
  exact ⟨rfl, rfl⟩
abbrev RunesR := SliceR 21 1 (rdOf encRune)
theorem refRunes_any (s : ByteArray) (w : World) (hs : s.size ≤ 10000000) :
    Calls Tryd.prog 77 #[.string s] w fun e w' => ∃ v, e = .returned v ∧ RunesR true w' (fun b => w.heap.size ≤ b) v (runesB s) ∧ Below w.heap.size w w' := by
  have hz := size_runesFrom s s.size 0 #[]
  have hr := run_runes_of_string w 9 96 21 s Tryd.underlying9 Tryd.underlying96 Tryd.underlying21 (by simp at hz; omega)
  have hge := grownCap_ge w (Conv.runesFrom s s.size 0 #[]).size 0 21
  have hle := grownCap_le_maxLen w (Conv.runesFrom s s.size 0 #[]).size 0 21 (by unfold maxLen; simp at hz; omega)
  have he : Conv.runesFrom s s.size 0 #[] = ((runesB s).map (Value.int .i32)).toArray := by rw [runesFrom_eq]; simp [runesB]
  rw [he] at hr hge hle
  generalize hG : grownCap w (((runesB s).map (Value.int .i32)).toArray).size 0 21 = G at *
  simp only [List.size_toArray, List.length_map] at hr hge hle
  have HG := Lib.hid (And.intro hge hle)
  clear hz he hge hle hG
  go_enter Tryd.func77, Tryd.ntmps77
  go_wp2_with fail
  go_ret
  refine ⟨_, rfl, ⟨_, G, rfl, HG.out.1, HG.out.2, .inr ⟨w.heap.size, 0, rfl, Nat.le_refl _, by simp, fun _ => ⟨_, heap_new _ _ rfl, ?_⟩, fun i x hx => ⟨_, rfl, rfl, fun j u hu => ?_⟩⟩⟩, by (repeat' (first | (with_reducible exact Below.refl _ _) | (with_reducible assumption) | (with_reducible refine Below.alloc ?_ ?_ _) | (with_reducible refine Below.drew ?_) | (with_reducible refine drewN_below ?_) | (with_reducible refine Below.setCell ?_ ?_ _) | go_size))⟩
  · have := HG.out.1
    simp
    omega
  · have hi := (List.getElem?_eq_some_iff.1 hx).1
    have hj : j = 0 := by
      have := (List.getElem?_eq_some_iff.1 hu).1
      simp [encRune] at this
      omega
    subst hj
    cases hu
    rw [World.cell?_drew, cell_of_heap (heap_new _ _ rfl)]
    rw [Array.getElem?_append_left (by simp; omega)]
    simp [hx]
end Go.Proofs.YtgeaijnelopkbaaDoor
namespace Go.Proofs.YtgeaijnelopkbaaDoor
open Go.RowKit
open Go.Proofs.Qw
theorem valueB_eq (s : ByteArray) : valueB s = (decide (s.size ≤ 200) && (((runesBytes (runesB s)).toList == s.toList) && (runesB s).all mayR)) := by
  have h : ((runesBytes (runesB s)).toList == s.toList) = Lib.validD s.data.toList := by
    rw [toList_eq, toList_eq, runesBytes_eq, Bool.eq_iff_iff, beq_iff_eq]
    exact runesB_back s
  rw [h]
  unfold valueB
  cases (runesB s).all mayR <;> cases decide (s.size ≤ 200) <;> cases Lib.validD s.data.toList <;> rfl
theorem runes_shape {own : Bool} {w : World} {S : Nat → Prop} {v : Value} {d : List Int} (h : RunesR own w S v d) :
    ∃ a c, v = .slice a d.length c ∧ d.length ≤ c ∧ c ≤ maxLen ∧ ∀ i l, d[i]? = some l → ∃ b o, a = some ⟨b, o, none⟩ ∧ b < w.heap.size ∧ w.cell? ⟨b, o + i, none⟩ = some (.int .i32 l) := by
  obtain ⟨a, c, rfl, hc, hm, hx⟩ := h.shape
  refine ⟨a, c, rfl, hc, hm, fun i l hl => ?_⟩
  obtain ⟨b, o, vs, rfl, hz, _, _, e, he⟩ := hx i l hl
  cases e
  have := he 0 _ rfl
  rw [Nat.mul_one] at this
  exact ⟨b, o, rfl, hz, this⟩
theorem string_runes {own : Bool} {w : World} {S : Nat → Prop} {v : Value} {d : List Int} (h : RunesR own w S v d) : (convert 96 9 v).run Tryd.prog w = .ok (.string (runesBytes d)) w := by
  obtain ⟨a, c, rfl, hc, hm, hx⟩ := runes_shape h
  cases a with
  | none =>
    have hd : d = [] := by
      cases d with
      | nil => rfl
      | cons x l => obtain ⟨_, _, e, _⟩ := hx 0 x rfl; cases e
    subst hd
    rw [run_convert_runes_nil w 96 9 21 _ _ Tryd.underlying96 Tryd.underlying21 Tryd.underlying9]
    rfl
  | some a =>
    rw [run_convert_runes w 96 9 21 a d.length c d (Nat.le_refl _) Tryd.underlying96 Tryd.underlying21 Tryd.underlying9 (fun j hj => by
      obtain ⟨b, o, e, _, h2⟩ := hx j d[j] (List.getElem?_eq_getElem hj)
      cases e
      rw [show (⟨b, o, none⟩ : Addr).add j = ⟨b, o + j, none⟩ by unfold Addr.add; split <;> simp_all]
      rw [h2]
      simp [List.getD, hj])]
    rw [List.take_length]
theorem all_take {α : Type} {f : α → Bool} {l : List α} {k : Nat} {x : α} (hx : l[k]? = some x) (h : (l.take k).all f = true) (hf : f x = true) : (l.take (k + 1)).all f = true := by
  rw [take_some hx, List.all_append, h]; simp [hf]
theorem all_no {α : Type} {f : α → Bool} {l : List α} {k : Nat} {x : α} (hx : l[k]? = some x) (hf : f x = false) : l.all f = false := by
  rw [List.all_eq_false]
  exact ⟨x, List.mem_of_getElem? hx, by simp [hf]⟩
set_option maxRecDepth 100000 in
set_option maxHeartbeats 2000000 in
theorem refValue_any (s : ByteArray) (w : World) (hs : s.size ≤ 1000000) :
    Calls Tryd.prog 58 #[.string s] w fun e w' => e = .returned (.bool (valueB s)) ∧ Below w.heap.size w w' := by
  have HC := Lib.hid (refRunes_any s w (by omega))
  have HV := Lib.hid (valueB_eq s)
  have hln : (runesB s).length ≤ 1000000 := by
    have hz := size_runesFrom s s.size 0 #[]
    rw [runesFrom_eq] at hz
    simp at hz
    unfold runesB
    omega
  have hcs : (200 < s.size ∧ valueB s = false) ∨ (s.size ≤ 200 ∧ ((runesBytes (runesB s)).toList == s.toList) = false ∧ valueB s = false) ∨ (s.size ≤ 200 ∧ ((runesBytes (runesB s)).toList == s.toList) = true ∧ valueB s = (runesB s).all mayR) := by
    rw [HV.out]
    by_cases h1 : s.size ≤ 200
    · cases h2 : ((runesBytes (runesB s)).toList == s.toList) <;> simp [h1]
    · simp [h1]; omega
  obtain ⟨t, ht⟩ : ∃ t, runesBytes (runesB s) = t := ⟨_, rfl⟩
  rw [ht] at hcs
  have HT := Lib.hid ht
  clear ht
  go_enter Tryd.func58, Tryd.ntmps58
  rcases hcs with ⟨h1, hv⟩ | ⟨h1, h2, hv⟩ | ⟨h1, h2, hv⟩
  · have HR := Lib.hid hv
    clear hv
    go_wp2_with (go_at_call 77; refine HC.out.mono ?_; rintro e w2 ⟨v2, rfl, hv2, hb2⟩; have hcv := string_runes hv2; rw [HT.out] at hcv; obtain ⟨a2, c2, rfl, hc2, hm2, hx2⟩ := runes_shape hv2; have HX := Lib.hid hx2; clear hx2 hv2; unfold maxLen at hm2)
    go_ret
    rw [HR.out]
    exact ⟨rfl, hb2⟩
  · have HR := Lib.hid hv
    clear hv
    go_wp2_with (go_at_call 77; refine HC.out.mono ?_; rintro e w2 ⟨v2, rfl, hv2, hb2⟩; have hcv := string_runes hv2; rw [HT.out] at hcv; obtain ⟨a2, c2, rfl, hc2, hm2, hx2⟩ := runes_shape hv2; have HX := Lib.hid hx2; clear hx2 hv2; unfold maxLen at hm2)
    go_ret
    rw [HR.out]
    exact ⟨rfl, hb2⟩
  · have HR := Lib.hid hv
    clear hv
    go_wp2_with (go_at_call 77; refine HC.out.mono ?_; rintro e w2 ⟨v2, rfl, hv2, hb2⟩; have hcv := string_runes hv2; rw [HT.out] at hcv; obtain ⟨a2, c2, rfl, hc2, hm2, hx2⟩ := runes_shape hv2; have HX := Lib.hid hx2; clear hx2 hv2; unfold maxLen at hm2)
    go_loopw [4] (fun i wr => ∃ k : Nat, k ≤ (runesB s).length ∧ i = .int .i64 k ∧ Hid (((runesB s).take k).all mayR = true) ∧ wr = w2) (fun i _ => (runesB s).length - (intOf i).toNat)
    case atStart => exact ⟨0, Nat.zero_le _, rfl, Lib.hid rfl, rfl⟩
    case round =>
      obtain ⟨k, hk, rfl, HA, rfl⟩ := hrel
      by_cases hlt : k < (runesB s).length
      · obtain ⟨x, hx, _⟩ := getOf (runesB s) k hlt
        obtain ⟨b, o, rfl, hz, c0⟩ := HX.out k x hx
        have HX2 := Lib.hid hx
        have HM : Hid (∀ W, Calls Tryd.prog 78 #[.int .i32 x] W fun e w' => e = .returned (.bool (mayR x)) ∧ w' = W) := Lib.hid fun W => refCharMay_any x W
        clear hx
        cases hm : mayR x
        · rw [hm] at HM
          have HF := Lib.hid (all_no HX2.out hm)
          clear hm
          go_wp2_with (go_at_call 78; refine (HM.out _).mono ?_; rintro e w3 ⟨rfl, rfl⟩)
          go_ret
          rw [HR.out, HF.out]
          exact ⟨rfl, hb2⟩
        · rw [hm] at HM
          have HF := Lib.hid (all_take HX2.out HA.out hm)
          clear hm
          go_wp2_with (go_at_call 78; refine (HM.out _).mono ?_; rintro e w3 ⟨rfl, rfl⟩)
          go_roundw
          case rel => exact ⟨k + 1, hlt, by go_num, HF, by first | rfl | trivial⟩
          case measure => simp [intOf]; omega
      · obtain rfl : k = (runesB s).length := by omega
        have HF : Hid ((runesB s).all mayR = true) := Lib.hid (by have := HA.out; rwa [List.take_length] at this)
        go_wp2_with fail
        go_ret
        rw [HR.out, HF.out]
        exact ⟨rfl, hb2⟩
end Go.Proofs.YtgeaijnelopkbaaDoor
namespace Go.Proofs.Qw
open Go.RowKit Go.Proofs.YtgeaijnelopkbaaDoor
def lowB (b : UInt8) : UInt8 := if 65 ≤ b.toNat ∧ b.toNat ≤ 90 then b + 32 else b
theorem cut_colon : ∀ (l : List UInt8), Lib.index l [58] = if l.takeWhile (· != 58) = l then -1 else ((l.takeWhile (· != 58)).length : Int)
  | [] => rfl
  | b :: l => by
    have ih := cut_colon l
    by_cases h : b = 58
    · subst h
      rw [show Lib.index (58 :: l) [58] = 0 from by rw [Lib.index]; rfl]
      simp
    · have hp : ([58] : List UInt8).isPrefixOf (b :: l) = false := by
        simp [List.isPrefixOf, Ne.symm h]
      have hb : (b != 58) = true := by simpa using h
      rw [Lib.index, hp, ih, List.takeWhile_cons, if_pos hb, if_neg (by simp : ¬ (false = true))]
      by_cases e : l.takeWhile (· != 58) = l
      · simp [e]
      · have e' : ¬ (b :: l.takeWhile (· != 58) = b :: l) := by simpa using e
        rw [if_neg e, if_neg e', if_neg (by simp)]
        simp
theorem cut_fst (l : List UInt8) : (Lib.cut l [58]).1 = l.takeWhile (· != 58) := by
  unfold Lib.cut
  rw [cut_colon]
  by_cases e : l.takeWhile (· != 58) = l
  · rw [if_pos e, if_neg (by omega), e]
  · rw [if_neg e, if_pos (by omega)]
    simp only [Int.toNat_natCast]
    conv => lhs; arg 2; rw [← List.takeWhile_append_dropWhile (p := (· != 58)) (l := l)]
    rw [List.take_left]
theorem takeWhile_take {l : List UInt8} {k : Nat} (h : ∀ j, j < k → l[j]? ≠ some 58) (hk : k ≤ l.length) (he : k = l.length ∨ l[k]? = some 58) : l.takeWhile (· != 58) = l.take k := by
  induction l generalizing k with
  | nil => simp
  | cons b l ih =>
    cases k with
    | zero =>
      rcases he with he | he
      · cases he
      · cases he; simp
    | succ k =>
      have hb : b ≠ 58 := fun e => h 0 (by omega) (by rw [e]; rfl)
      rw [List.takeWhile_cons, if_pos (by simpa using hb), List.take_succ_cons, ih (k := k) (fun j hj => by simpa using h (j + 1) (by omega)) (by simpa using hk) (by simpa using he)]
theorem lowB_ascii {b : UInt8} (h : b.toNat < 128) : Lib.encodeRune (lowR (b.toNat : Int)) = [lowB b] := by
  unfold lowR lowB Lib.encodeRune
  by_cases hu : 65 ≤ b.toNat ∧ b.toNat ≤ 90
  · rw [if_pos (by omega), if_pos hu, Lib.encodeRuneZ_one (by omega) (by omega)]
    simp only [List.map_cons, List.map_nil, List.cons.injEq, and_true]
    apply UInt8.toNat_inj.1
    rw [show ((b.toNat : Int) + 32).toNat = b.toNat + 32 by omega]
    simp [UInt8.toNat_add]
  · rw [if_neg (by omega), if_neg hu, Lib.encodeRuneZ_one (by omega) (by omega)]
    simp
theorem high_rune {r : Int} (h : 128 ≤ r) : ∃ x t, Lib.encodeRune r = x :: t ∧ 128 ≤ x.toNat := by
  unfold Lib.encodeRune Lib.encodeRuneZ
  rw [if_neg (by omega)]
  have key : ∀ z : Int, 192 ≤ z → z ≤ 255 → 128 ≤ (z.toNat.toUInt8).toNat := by
    intro z h1 h2
    simp [Nat.toUInt8]
    omega
  split
  · exact ⟨_, _, rfl, key _ (by omega) (by omega)⟩
  · split
    · exact ⟨_, _, rfl, key _ (by omega) (by omega)⟩
    · split
      · exact ⟨_, _, rfl, key _ (by omega) (by omega)⟩
      · exact ⟨_, _, rfl, key _ (by omega) (by omega)⟩
theorem mapD_low : ∀ (n : Nat) (l t : List UInt8), l.length ≤ n → (∀ b ∈ t, b.toNat < 128) → (Lib.mapD lowR l = t ↔ l.map lowB = t)
  | 0, l, t, hl, _ => by
    have : l = [] := List.length_eq_zero_iff.1 (by omega)
    subst this
    rw [Lib.mapD_nil]; rfl
  | n + 1, [], t, _, _ => by rw [Lib.mapD_nil]; rfl
  | n + 1, b :: l, t, hl, ht => by
    by_cases hb : b.toNat < 128
    · rw [Lib.mapD_step _ _ (by simp), Lib.decodeL_ascii b l hb]
      simp only
      have hp : 0 ≤ lowR (b.toNat : Int) := by unfold lowR; split <;> omega
      rw [if_pos hp, lowB_ascii hb, List.drop_succ_cons, List.drop_zero]
      cases t with
      | nil => simp
      | cons c t =>
        rw [List.singleton_append, List.map_cons, List.cons.injEq, List.cons.injEq, mapD_low n l t (by simpa using hl) (fun x hx => ht x (by simp [hx]))]
    · have h128 : 128 ≤ (Lib.decodeL (b :: l)).1 := by
        have := (decode_high (⟨(b :: l).toArray⟩ : ByteArray) 0 (by show 0 < (b :: l).toArray.size; simp) (by show 128 ≤ ((b :: l).toArray[0]).toNat; simp; omega)).1
        exact this
      have hlow : lowR ((Lib.decodeL (b :: l)).1 : Int) = (Lib.decodeL (b :: l)).1 := by unfold lowR; rw [if_neg (by omega)]
      obtain ⟨x, y, hx, hx2⟩ := high_rune (r := ((Lib.decodeL (b :: l)).1 : Int)) (by omega)
      rw [Lib.mapD_step _ _ (by simp), hlow, if_pos (by omega), hx]
      have hlb : lowB b = b := by unfold lowB; rw [if_neg (by omega)]
      rw [List.map_cons, hlb]
      cases t with
      | nil => simp
      | cons c t =>
        have hc := ht c (by simp)
        constructor
        · intro e
          rw [List.cons_append, List.cons.injEq] at e
          rw [e.1] at hx2
          omega
        · intro e
          rw [List.cons.injEq] at e
          rw [e.1] at hb
          omega
theorem js_eq (l : List UInt8) : (Lib.mapD lowR l == javascript) = decide (l.map lowB = javascript) := by
  rw [Bool.eq_iff_iff, beq_iff_eq, decide_eq_true_eq]
  exact mapD_low l.length l javascript (Nat.le_refl _) (by decide)
end Go.Proofs.Qw
namespace Go.Proofs.YtgeaijnelopkbaaDoor
open Go.RowKit
open Go.Proofs.Qw
set_option maxRecDepth 100000 in
set_option maxHeartbeats 4000000 in
theorem refTarget_any (s : ByteArray) (w : World) (hs : s.size ≤ 1000000) :
    Calls Tryd.prog 38 #[.string s] w fun e w' => e = .returned (.bool (targetF s.data.toList)) ∧ Below w.heap.size w w' := by
  have HV := Lib.hid (refValue_any s w hs)
  have HT : Hid (targetF s.data.toList = (valueB s && (decide (s.data.toList ≠ []) && (decide (s.data.toList.head? ≠ some 32) && (decide (s.data.toList.getLast? ≠ some 32) && !(decide ((s.data.toList.takeWhile (· != 58)).map lowB = javascript))))))) := Lib.hid (by
    unfold targetF valueF
    rw [js_eq, cut_fst])
  have hcs : (valueB s = false) ∨ (valueB s = true ∧ s.size = 0) ∨ (valueB s = true ∧ 0 < s.size) := by
    cases valueB s
    · exact .inl rfl
    · rcases Nat.eq_zero_or_pos s.size with h | h
      · exact .inr (.inl ⟨rfl, h⟩)
      · exact .inr (.inr ⟨rfl, h⟩)
  rcases hcs with hv | ⟨hv, hz⟩ | ⟨hv, hz⟩
  · have HF : Hid (targetF s.data.toList = false) := Lib.hid (by rw [HT.out, hv]; rfl)
    rw [hv] at HV
    clear hv HT
    go_enter Tryd.func38, Tryd.ntmps38
    go_wp2_with (go_at_call 58; refine HV.out.mono ?_; rintro e w1 ⟨rfl, hb1⟩)
    go_ret
    rw [HF.out]
    exact ⟨rfl, hb1⟩
  · have hnil : s.data.toList = [] := List.length_eq_zero_iff.1 (by rw [Array.length_toList]; exact hz)
    have HF : Hid (targetF s.data.toList = false) := Lib.hid (by rw [HT.out, hnil]; simp)
    have hne2 : s.toList.isEmpty = true := by rw [toList_eq, hnil]; rfl
    rw [hv] at HV
    clear hv HT hnil
    go_enter Tryd.func38, Tryd.ntmps38
    go_wp2_with (go_at_call 58; refine HV.out.mono ?_; rintro e w1 ⟨rfl, hb1⟩)
    go_ret
    rw [HF.out]
    exact ⟨rfl, hb1⟩
  · have hne : s.data.toList ≠ [] := by
      intro e
      have h2 : s.data.toList.length = s.size := Array.length_toList
      rw [e, List.length_nil] at h2
      omega
    have h0 := byte_ne (byte_head s hz)
    have h1 := byte_ne (byte_last s hz)
    have HN : Hid (targetF s.data.toList = (((s[0].toNat : Int) != 32) && (((s[s.size - 1].toNat : Int) != 32) && !(decide ((s.data.toList.takeWhile (· != 58)).map lowB = javascript))))) := Lib.hid (by
      rw [HT.out, h0, h1, decide_eq_true hne, Bool.true_and, hv, Bool.true_and])
    have hne2 : s.toList.isEmpty = false := by rw [toList_eq]; simpa using hne
    rw [hv] at HV
    clear h0 h1 HT hne hv
    have hcs : (((s[0].toNat : Int) == 32) = true) ∨ (((s[0].toNat : Int) == 32) = false ∧ ((s[s.size - 1].toNat : Int) == 32) = true) ∨ (((s[0].toNat : Int) == 32) = false ∧ ((s[s.size - 1].toNat : Int) == 32) = false) := by
      cases ((s[0].toNat : Int) == 32) <;> cases ((s[s.size - 1].toNat : Int) == 32) <;> simp
    rcases hcs with e1 | ⟨e1, e2⟩ | ⟨e1, e2⟩
    · have HF : Hid (targetF s.data.toList = false) := Lib.hid (by rw [HN.out, bne, e1]; rfl)
      clear HN
      go_enter Tryd.func38, Tryd.ntmps38
      go_wp2_with (go_at_call 58; refine HV.out.mono ?_; rintro e w1 ⟨rfl, hb1⟩)
      go_ret
      rw [HF.out]
      exact ⟨rfl, hb1⟩
    · have HF : Hid (targetF s.data.toList = false) := Lib.hid (by rw [HN.out, bne, bne, e1, e2]; rfl)
      clear HN
      go_enter Tryd.func38, Tryd.ntmps38
      go_wp2_with (go_at_call 58; refine HV.out.mono ?_; rintro e w1 ⟨rfl, hb1⟩)
      go_ret
      rw [HF.out]
      exact ⟨rfl, hb1⟩
    · have HF : Hid (targetF s.data.toList = !(decide ((s.data.toList.takeWhile (· != 58)).map lowB = javascript))) := Lib.hid (by rw [HN.out, bne, bne, e1, e2]; rfl)
      clear HN
      go_enter Tryd.func38, Tryd.ntmps38
      go_wp2_with (go_at_call 58; refine HV.out.mono ?_; rintro e w1 ⟨rfl, hb1⟩)
      obtain ⟨jb, hjb⟩ : ∃ jb : ByteArray, (⟨#[106, 97, 118, 97, 115, 99, 114, 105, 112, 116]⟩ : ByteArray) = jb := ⟨_, rfl⟩
      have hj1 : jb.data.toList = javascript := by rw [← hjb]; rfl
      have hj2 : jb.size = 10 := by rw [← hjb]; rfl
      rw [hjb]
      have HJ := Lib.hid hj1
      clear hjb hj1
      have hsl : s.data.toList.length = s.size := Array.length_toList
      have HSL := Lib.hid hsl
      clear hsl
      go_loopw [4] (fun i wr => ∃ k : Nat, k ≤ s.size ∧ i = .int .i64 k ∧ Hid (∀ j, j < k → s.data.toList[j]? ≠ some 58) ∧ wr = w1) (fun i _ => s.size - (intOf i).toNat)
      case atStart => exact ⟨0, Nat.zero_le _, rfl, Lib.hid (fun j hj => absurd hj (Nat.not_lt_zero _)), rfl⟩
      case round =>
        obtain ⟨k, hk, rfl, HA, rfl⟩ := hrel
        have hcs : (k < s.size ∧ Hid (s.data.toList[k]? ≠ some 58)) ∨ (k < s.size ∧ Hid (s.data.toList[k]? = some 58)) ∨ k = s.size := by
          by_cases h1 : k < s.size
          · by_cases h2 : s.data.toList[k]? = some 58
            · exact .inr (.inl ⟨h1, h2⟩)
            · exact .inl ⟨h1, h2⟩
          · exact .inr (.inr (by omega))
        rcases hcs with ⟨hlt, H2⟩ | ⟨hlt, H2⟩ | he
        · have hb : ((s[k].toNat : Int) != 58) = true := by
            have h3 : s.data.toList[k]? = some s[k] := by rw [Array.getElem?_toList, Array.getElem?_eq_getElem hlt]; rfl
            have h4 := H2.out
            rw [h3] at h4
            have h5 : s[k] ≠ 58 := fun e => h4 (by rw [e])
            have h6 : ¬ s[k].toNat = 58 := fun e => h5 (UInt8.toNat_inj.1 e)
            simp
            omega
          have HN : Hid (∀ j, j < k + 1 → s.data.toList[j]? ≠ some 58) := Lib.hid (fun j hj => by
            by_cases e : j = k
            · subst e; exact H2.out
            · exact HA.out j (by omega))
          go_wp2_with fail
          go_roundw
          case rel => exact ⟨k + 1, hlt, by go_num, HN, by first | rfl | trivial⟩
          case measure => simp [intOf]; omega
        all_goals
          have HE : Hid (s.data.toList.takeWhile (· != 58) = s.data.toList.take k) := Lib.hid (takeWhile_take HA.out (by rw [HSL.out]; exact hk) (by first | exact .inr H2.out | exact .inl (by rw [HSL.out]; exact he)))
          have hend : Hid (k < s.size → (decide ((k : Int) < (s.size : Int)) = true)) := Lib.hid (fun h => by simpa using h)
          have hstop : (∃ h : k < s.size, ((s[k].toNat : Int) != 58) = false) ∨ k = s.size := by
            first
              | exact .inr he
              | exact .inl ⟨hlt, by
                  have h3 : s.data.toList[k]? = some s[k] := by rw [Array.getElem?_toList, Array.getElem?_eq_getElem hlt]; rfl
                  have h4 := H2.out
                  rw [h3] at h4
                  have h5 : s[k] = 58 := by simpa using h4
                  rw [h5]; rfl⟩
          by_cases h10 : k = 10
          · subst h10
            have hq : ((10 : Int) != ((10 : Nat) : Int)) = false := by decide
            rcases hstop with ⟨hlt, hb⟩ | he
            all_goals
              (try (exfalso; omega))
            all_goals
              go_wp2_with fail
              go_loopw [5, 6] (fun i _ wi => ∃ q : Nat, q ≤ 10 ∧ i = .int .i64 q ∧ Hid ((s.data.toList.take q).map lowB = javascript.take q) ∧ wi = wr) (fun i _ _ => 10 - (intOf i).toNat)
              case atStart => exact ⟨0, Nat.zero_le _, rfl, Lib.hid rfl, rfl⟩
              case round =>
                obtain ⟨q, hq, rfl, HM, rfl⟩ := hrel
                by_cases hlt2 : q < 10
                · have hqs : q < s.size := by omega
                  have hqj : q < jb.size := by omega
                  have g1 : s.data.toList[q]? = some s[q] := by rw [Array.getElem?_toList, Array.getElem?_eq_getElem hqs]; rfl
                  have g2 : javascript[q]? = some jb[q] := by rw [← HJ.out, Array.getElem?_toList, Array.getElem?_eq_getElem hqj]; rfl
                  have hst : Hid (lowB s[q] = jb[q] → (s.data.toList.take (q + 1)).map lowB = javascript.take (q + 1)) := Lib.hid fun e => by
                    rw [take_some g1, take_some g2, List.map_append, HM.out, List.map_cons, List.map_nil, e]
                  have hno : Hid (lowB s[q] ≠ jb[q] → targetF s.data.toList = true) := Lib.hid fun e => by
                    rw [HF.out, HE.out]
                    have : ¬ ((s.data.toList.take 10).map lowB = javascript) := fun e2 => by
                      have := congrArg (fun l => l[q]?) e2
                      simp only [List.getElem?_map, List.getElem?_take, if_pos hlt2, g1, g2, Option.map_some, Option.some.injEq] at this
                      exact e this
                    rw [decide_eq_false this]; rfl
                  have hub : (s[q].toNat : Int) ≤ 255 := by have := s[q].toNat_lt; omega
                  have hcs : ((65 ≤ (s[q].toNat : Int) ∧ (s[q].toNat : Int) ≤ 90) ∧ (lowB s[q]).toNat = s[q].toNat + 32) ∨ (decide (65 ≤ (s[q].toNat : Int)) = false ∧ (lowB s[q]).toNat = s[q].toNat) ∨ (65 ≤ (s[q].toNat : Int) ∧ decide ((s[q].toNat : Int) ≤ 90) = false ∧ (lowB s[q]).toNat = s[q].toNat) := by
                    unfold lowB
                    by_cases h1 : 65 ≤ s[q].toNat
                    · by_cases h2 : s[q].toNat ≤ 90
                      · refine .inl ⟨⟨by omega, by omega⟩, ?_⟩
                        rw [if_pos ⟨h1, h2⟩]
                        simp [UInt8.toNat_add]
                        omega
                      · refine .inr (.inr ⟨by omega, by simp; omega, ?_⟩)
                        rw [if_neg (by omega)]
                    · refine .inr (.inl ⟨by simp; omega, ?_⟩)
                      rw [if_neg (by omega)]
                  have heq : Hid ((lowB s[q]).toNat = jb[q].toNat → lowB s[q] = jb[q]) := Lib.hid UInt8.toNat_inj.1
                  have hne3 : Hid ((lowB s[q]).toNat ≠ jb[q].toNat → lowB s[q] ≠ jb[q]) := Lib.hid fun e h => e (by rw [h])
                  clear g1 g2
                  rcases hcs with ⟨⟨u1, u2⟩, hl⟩ | ⟨u1, hl⟩ | ⟨u1, u2, hl⟩
                  · by_cases ht : s[q].toNat + 32 = jb[q].toNat
                    · have ht2 : ((s[q].toNat : Int) + 32 != (jb[q].toNat : Int)) = false := by simp; omega
                      have HS := Lib.hid (hst.out (heq.out (by omega)))
                      clear hl ht
                      go_wp2_with fail
                      go_roundw
                      case rel => exact ⟨q + 1, by omega, by go_num, HS, by first | rfl | trivial⟩
                      case measure => simp [intOf]; omega
                    · have ht2 : ((s[q].toNat : Int) + 32 != (jb[q].toNat : Int)) = true := by simp; omega
                      have HS := Lib.hid (hno.out (hne3.out (by omega)))
                      clear hl ht
                      go_wp2_with fail
                      go_ret
                      rw [HS.out]
                      exact ⟨rfl, hb1⟩
                  all_goals
                    by_cases ht : s[q].toNat = jb[q].toNat
                    · have ht2 : ((s[q].toNat : Int) != (jb[q].toNat : Int)) = false := by simp; omega
                      have HS := Lib.hid (hst.out (heq.out (by omega)))
                      clear hl ht
                      go_wp2_with fail
                      go_roundw
                      case rel => exact ⟨q + 1, by omega, by go_num, HS, by first | rfl | trivial⟩
                      case measure => simp [intOf]; omega
                    · have ht2 : ((s[q].toNat : Int) != (jb[q].toNat : Int)) = true := by simp; omega
                      have HS := Lib.hid (hno.out (hne3.out (by omega)))
                      clear hl ht
                      go_wp2_with fail
                      go_ret
                      rw [HS.out]
                      exact ⟨rfl, hb1⟩
                · obtain rfl : q = 10 := by omega
                  have HR : Hid (targetF s.data.toList = false) := Lib.hid (by
                    rw [HF.out, HE.out, HM.out]; rfl)
                  go_wp2_with fail
                  go_ret
                  rw [HR.out]
                  exact ⟨rfl, hb1⟩
          · have HR : Hid (targetF s.data.toList = true) := Lib.hid (by
              rw [HF.out, HE.out]
              have : ¬ ((s.data.toList.take k).map lowB = javascript) := fun e => by
                have := congrArg List.length e
                rw [List.length_map, List.length_take, HSL.out] at this
                simp [javascript] at this
                omega
              rw [decide_eq_false this]; rfl)
            have hq : ((k : Int) != (10 : Int)) = true := by simp; omega
            rcases hstop with ⟨hlt, hb⟩ | he
            all_goals first
              | (exfalso; omega)
              | (go_wp2_with fail
                 go_ret
                 rw [HR.out]
                 exact ⟨rfl, hb1⟩)
end Go.Proofs.YtgeaijnelopkbaaDoor
namespace Go.Proofs.YtgeaijnelopkbaaDoor
open Go.RowKit
open Go.Proofs.Qw
theorem take_both {α : Type} {l m : List α} {k : Nat} {x y : α} (hx : l[k]? = some x) (hy : m[k]? = some y) (h : l.take k = m.take k) (e : x = y) : l.take (k + 1) = m.take (k + 1) := by
  rw [take_some hx, take_some hy, h, e]
theorem ne_at {α : Type} {l m : List α} {k : Nat} {x y : α} (hx : l[k]? = some x) (hy : m[k]? = some y) (e : x ≠ y) : l ≠ m := fun h => e (by rw [h, hy] at hx; cases hx; rfl)
end Go.Proofs.YtgeaijnelopkbaaDoor
namespace Go.Proofs.YtgeaijnelopkbaaDoor
open Go.RowKit
open Go.Proofs.Qw
def Sane (d : Doc) : Prop := ∀ l ∈ d, l.lists.length ≤ 70368744177664 ∧ l.cells.length ≤ 70368744177664 ∧ ∀ c ∈ l.cells, c.href.length ≤ 281474976710656
structure Sml (d : Doc) : Prop where
  len : d.length ≤ 300
  size : sizeD d ≤ 20000
  lin : ∀ l ∈ d, l.lists.length ≤ 20000 ∧ ∀ c ∈ l.cells, c.href.length ≤ 160007
end Go.Proofs.YtgeaijnelopkbaaDoor
namespace Go.Proofs.YtgeaijnelopkbaaDoor
open Go.ChangeShapes Go.WideShapes Go.ChangeAt Go.RowKit
theorem own : ownKnob Tryd.prog.godebug = none := by kernel_rfl
def numOf : DataW Unit → List Value
  | .lit (.int k n) => [.int k n]
  | .agg l => l.flatMap fun
    | .lit (.int k n) => [.int k n]
    | .agg m => m.flatMap fun
      | .lit (.int k n) => [.int k n]
      | _ => []
    | _ => []
  | _ => []
def putAt (w : World) (g : Nat) (cs : List Value) : World := { w with heap := w.heap.modify g fun
      | .cells _ t frozen => .cells cs.toArray t frozen
      | o => o }
noncomputable def laidWorld (os : Os) : World :=
  putAt (putAt (World.holding Tryd.prog os ⟨#[], #[], []⟩) 0 (numOf Rows.laid_unicode_utf8_first)) 1 (numOf Rows.laid_unicode_utf8_acceptRanges)
end Go.Proofs.YtgeaijnelopkbaaDoor
namespace Go.Proofs.Qw
open Go.RowKit Go.Proofs.YtgeaijnelopkbaaDoor Go.Deep
section
variable {H : Type} {enc : TypeId × Value → H} {P : Program} {w : World} {base : Nat} {held : Bool}
theorem open_row {α : Type} [Inhabited α] {t e t0 : TypeId} {k fuel : Nat} {R : Rd α} {cs : List Value} {x : DataW H × List MemPlace} (Q : DataW H → α → Prop) (ht : P.underlying t = some (.slice e)) (hk : P.cellsOf e = k) (hk0 : 0 < k)
    (h : DataW.trod enc P w base (fun _ => true) held fuel t cs = some x)
    (hR : ∀ n cs y, DataW.trod enc P w base (fun _ => true) held n e cs = some y → ∃ x, R w (fun _ => True) cs x ∧ Q y.1 x) :
    ∃ (v : Value) (xs : List α), cs = [v] ∧ SliceR t0 k R false w (fun _ => True) v xs ∧ ((x.1 = .nil ∧ xs = []) ∨ ∃ (elems spare : List (DataW H)), x.1 = .slice elems spare ∧ elems.length = xs.length ∧ ∀ (i : Nat) (a : α), xs[i]? = some a → ∃ d, elems[i]? = some d ∧ Q d a) := by
  rcases open_slice ht h with ⟨rfl, rfl⟩ | ⟨a, len, cap, m, n, D, Pl, rfl, hb, hl, hm, hmm, rfl, hx⟩
  · exact ⟨_, [], rfl, SliceR.nil _ _ _ _ _ _, .inl ⟨rfl, rfl⟩⟩
  simp only [if_pos] at hmm
  subst hmm
  have hx2 : ∀ i, i < len → ∃ y : α, ∃ cs', (w.cells? base (a.add (i * P.cellsOf e)) (P.cellsOf e) = some cs' ∧ R w (fun _ => True) cs' y) ∧ Q (D i) y := fun i hi => by
    obtain ⟨cs', h1, h2⟩ := hx i (by omega)
    obtain ⟨y, g1, g2⟩ := hR _ _ _ h2
    exact ⟨y, cs', ⟨h1, g1⟩, g2⟩
  obtain ⟨Y, hY⟩ := choose_lt hx2
  refine ⟨_, (List.range len).map Y, rfl, ?_, .inr ⟨_, _, rfl, by simp, fun i y hi => ?_⟩⟩
  · by_cases h0 : len = 0
    · subst h0
      exact ⟨some a, m, rfl, by simp, hm, .inl ⟨rfl, fun h => by cases h⟩⟩
    obtain ⟨c0, ⟨g1, _⟩, _⟩ := hY 0 (by omega)
    have gs := World.cells?_some g1
    obtain ⟨b, off, spot⟩ := a
    have hc0 : c0.length = k := by rw [gs.2.1, hk]
    have g3 := gs.2.2 0 (by omega)
    have hspot : spot = none := by
      rw [List.getElem?_eq_getElem (by omega)] at g3
      simpa [Addr.add] using World.cell?_spot g3
    subst hspot
    have hlt : b < w.heap.size := by
      have := World.cells?_block g1 (by omega)
      simpa [Addr.add] using this
    refine ⟨_, m, by simp, by simp; omega, hm, .inr ⟨b, off, rfl, trivial, hlt, (fun h => by cases h), fun i y hi => ?_⟩⟩
    have hil : i < len := by have := (List.getElem?_eq_some_iff.1 hi).1; simpa using this
    have hy : y = Y i := by simp [hil] at hi; exact hi.symm
    subst hy
    obtain ⟨cs', ⟨q1, q2⟩, _⟩ := hY i hil
    have qs := World.cells?_some q1
    refine ⟨cs', by rw [qs.2.1, hk], q2, fun j u hu => ?_⟩
    have hj := (List.getElem?_eq_some_iff.1 hu).1
    have := qs.2.2 j (by rw [← qs.2.1]; exact hj)
    rw [hu, hk, WideShapes.add_plain, WideShapes.add_plain] at this
    rwa [Nat.add_assoc] at this ⊢
  · have hil : i < len := by have := (List.getElem?_eq_some_iff.1 hi).1; simpa using this
    have hy : y = Y i := by simp [hil] at hi; exact hi.symm
    subst hy
    obtain ⟨cs', _, q⟩ := hY i hil
    exact ⟨D i, by simp [hil], q⟩
theorem weightsAll_mem {e : TypeId} {d : DataW H} {n : Nat} (hn : n ∈ d.weights P e) : ∀ {l : List (DataW H)}, d ∈ l → n ∈ DataW.weightsAll P e l
  | x :: r, h => by
    rw [DataW.weightsAll, List.mem_append]
    rcases List.mem_cons.1 h with rfl | h
    · exact .inl hn
    · exact .inr (weightsAll_mem hn h)
end
section
variable {H : Type} {enc : TypeId × Value → H} {w : World} {base : Nat} {held : Bool} {sp : Nat → Bool}
theorem str_back (s : ByteArray) : (⟨s.data.toList.toArray⟩ : ByteArray) = s := by simp
end
end Go.Proofs.Qw
namespace Go.Proofs.YtgeaijnelopkbaaDoor
open Go.ChangeShapes Go.WideShapes Go.ChangeAt Go.RowKit
open Go.Proofs.Qw
def u8Ren : Shelf.Ren := { f := fun x => x, t := fun n => if n = 5 then 5 else if n = 119 then 102 else if n = 138 then 104 else 105, g := fun n => if n = 3 then 0 else 1 }
theorem u8First : (Rows.laid_unicode_utf8_first : DataW Unit) = Go.Lib.firstData := by kernel_rfl
theorem u8Accept : (Rows.laid_unicode_utf8_acceptRanges : DataW Unit) = Go.Lib.acceptData := by kernel_rfl
theorem tabs_of {W : World} (hL : laidMetH Tryd.prog [("unicode/utf8.acceptRanges", Rows.laid_unicode_utf8_acceptRanges), ("unicode/utf8.first", Rows.laid_unicode_utf8_first)] W) : Lib.Utf8Tabs 0 1 W :=
  utf8Tabs_of_readsT (ρ := u8Ren) ⟨by kernel_rfl, by kernel_rfl, by kernel_rfl, by kernel_rfl⟩ ⟨by kernel_rfl, by kernel_rfl, by kernel_rfl, by kernel_rfl, by kernel_rfl, by kernel_rfl, by kernel_rfl⟩
    (u8First ▸ Lib.laidMet.reads hL (.tail _ (.head _))) (u8Accept ▸ Lib.laidMet.reads hL (.head _))
theorem post_old {H : Type} {enc : TypeId × Value → H} {P : Program} {f : Func} {s : ChangeSpec} {apart fresh handsOn : Bool} {W W' : World} {args : Array Value} {v : Value} {ds gs : List (DataW H)} {before pa pv : List MemPlace}
    (hW : DataW.Whole enc P f.params.toList s.vars apart W args.toList ds gs before)
    (hres : ∀ (b : Nat) (sp : Nat → Bool) (hd : Bool), DataW.TrodAll enc P W' b sp hd f.resultTypes.toList (v.resultList f.resultTypes.size) (s.fn H (ds ++ gs)).results [])
    (hargs : DataW.TrodAll enc P W' 0 (fun b => decide (b < W.heap.size)) true f.params.toList args.toList (s.fn H (ds ++ gs)).args pa)
    (hvars : ∀ sp : Nat → Bool, (∀ p ∈ before, sp p.block = true) → DataW.TrodVars enc P W' sp s.vars (s.fn H (ds ++ gs)).vars pv)
    (hb : Below W.heap.size W W') : s.post enc P f apart fresh handsOn false W args v W' :=
  ⟨ds, gs, before, [], pa, pv, hW, hres _ _ _, hargs, hvars _ (fun p hp => by simpa using hW.lt p hp), hb.frame _, fun h => by cases h⟩
theorem laidOut : laidOutB Tryd.prog = true := by kernel_rfl
end Go.Proofs.YtgeaijnelopkbaaDoor
namespace Go.Proofs.Qw
open Go.RowKit
structure Att where
  name : List UInt8
  value : List UInt8
  deriving DecidableEq, Inhabited
inductive Nod where
  | mk (tag : Int) (attrs : List Att) (text : List UInt8) (kids : List Nod)
  deriving Inhabited
namespace Nod
def tag : Nod → Int | mk t _ _ _ => t
def attrs : Nod → List Att | mk _ a _ _ => a
def text : Nod → List UInt8 | mk _ _ x _ => x
def kids : Nod → List Nod | mk _ _ _ k => k
theorem eta (n : Nod) : mk n.tag n.attrs n.text n.kids = n := by cases n; rfl
mutual
def decEq : (a b : Nod) → Decidable (a = b)
  | mk t a x k, mk t' a' x' k' =>
    if h1 : t = t' then if h2 : a = a' then if h3 : x = x' then
      match decEqs k k' with
      | isTrue h => isTrue (by subst h1 h2 h3 h; rfl)
      | isFalse h => isFalse (by intro e; cases e; exact h rfl)
     else isFalse (by intro e; cases e; exact h3 rfl)
     else isFalse (by intro e; cases e; exact h2 rfl)
     else isFalse (by intro e; cases e; exact h1 rfl)
def decEqs : (a b : List Nod) → Decidable (a = b)
  | [], [] => isTrue rfl
  | [], _ :: _ => isFalse (by simp)
  | _ :: _, [] => isFalse (by simp)
  | x :: xs, y :: ys => match decEq x y, decEqs xs ys with
    | isTrue h1, isTrue h2 => isTrue (by rw [h1, h2])
    | isFalse h, _ => isFalse (by intro e; cases e; exact h rfl)
    | _, isFalse h => isFalse (by intro e; cases e; exact h rfl)
end
instance : DecidableEq Nod := decEq
mutual
def count : Nod → Nat | mk _ _ _ ks => 1 + counts ks
def counts : List Nod → Nat | [] => 0 | k :: ks => count k + counts ks
end
mutual
def deep : Nod → Nat | mk _ _ _ ks => deeps ks
def deeps : List Nod → Nat | [] => 0 | k :: ks => max (deep k + 1) (deeps ks)
end
theorem counts_append (a b : List Nod) : counts (a ++ b) = counts a + counts b := by
  induction a with
  | nil => simp [counts]
  | cons x xs ih => simp [counts, ih]; omega
end Nod
end Go.Proofs.Qw
namespace Go.Proofs.Qw
open Go.RowKit
def encAtt (a : Att) : List Value := [.string ⟨a.name.toArray⟩, .string ⟨a.value.toArray⟩]
abbrev AttsR (own : Bool) (w : World) (S : Nat → Prop) (v : Value) (l : List Att) : Prop := SliceR 48 2 (rdOf encAtt) own w S v l
def rdNod (own : Bool) : Nat → Rd Nod
  | 0 => fun _ _ _ _ => False
  | h + 1 => fun w S vs n => ∃ a k, vs = [.int .i64 n.tag, a, .string ⟨n.text.toArray⟩, k] ∧ AttsR own w S a n.attrs ∧ SliceR 25 4 (rdNod own h) own w S k n.kids
abbrev NodsR (own : Bool) (h : Nat) (w : World) (S : Nat → Prop) (v : Value) (l : List Nod) : Prop := SliceR 25 4 (rdNod own h) own w S v l
theorem rdNod_stable (own : Bool) : ∀ h, Stable (rdNod own h)
  | 0 => ⟨fun _ _ _ _ _ _ h _ _ => h⟩
  | h + 1 => ⟨fun _ _ _ _ _ _ ⟨a, k, h1, h2, h3⟩ hk hS => ⟨a, k, h1, SliceR.stable (rdOf_stable _) h2 hk hS, SliceR.stable (rdNod_stable own h) h3 hk hS⟩⟩
theorem SliceR.imp {α : Type} {t : TypeId} {k : Nat} {R R' : Rd α} {own : Bool} {w : World} {S : Nat → Prop} {v : Value} {xs : List α} (hR : ∀ vs x, x ∈ xs → R w S vs x → R' w S vs x) (h : SliceR t k R own w S v xs) : SliceR t k R' own w S v xs := by
  obtain ⟨a, c, h1, h2, h3, h | ⟨b, o, rfl, hb, hz, hf, he⟩⟩ := h
  · exact ⟨a, c, h1, h2, h3, .inl h⟩
  · exact ⟨_, c, h1, h2, h3, .inr ⟨b, o, rfl, hb, hz, hf, fun i x hx => by
      obtain ⟨vs, g1, g2, g3⟩ := he i x hx
      exact ⟨vs, g1, hR _ _ (List.mem_of_getElem? hx) g2, g3⟩⟩⟩
theorem rdNod_read : ∀ {h : Nat} {own : Bool} {w : World} {S : Nat → Prop} {vs : List Value} {n : Nod}, rdNod own h w S vs n → rdNod false h w S vs n
  | 0, _, _, _, _, _, h => h
  | h + 1, _, _, _, _, _, ⟨a, k, h1, h2, h3⟩ => ⟨a, k, h1, h2.read fun _ _ h => h, h3.read fun _ _ h => rdNod_read h⟩
theorem rdNod_succ : ∀ {h : Nat} {own : Bool} {w : World} {S : Nat → Prop} {vs : List Value} {n : Nod}, rdNod own h w S vs n → rdNod own (h + 1) w S vs n
  | 0, _, _, _, _, _, h => h.elim
  | h + 1, _, _, _, _, _, ⟨a, k, h1, h2, h3⟩ => ⟨a, k, h1, h2, h3.imp fun _ _ _ h => rdNod_succ h⟩
theorem rdNod_mono {h h' : Nat} {own : Bool} {w : World} {S : Nat → Prop} {vs : List Value} {n : Nod} (hh : h ≤ h') (hn : rdNod own h w S vs n) : rdNod own h' w S vs n := by
  induction hh with
  | refl => exact hn
  | step _ ih => exact rdNod_succ ih
def NodV (own : Bool) (h : Nat) (w : World) (S : Nat → Prop) (v : Value) (n : Nod) : Prop := ∃ a k, v = .agg #[.int .i64 n.tag, a, .string ⟨n.text.toArray⟩, k] ∧ AttsR own w S a n.attrs ∧ NodsR own h w S k n.kids
theorem NodV.below {own : Bool} {h : Nat} {w w' : World} {S : Nat → Prop} {v : Value} {n : Nod} (hn : NodV own h w S v n) (hb : Below w.heap.size w w') : NodV own h w' S v n := by
  obtain ⟨a, k, h1, h2, h3⟩ := hn
  exact ⟨a, k, h1, h2.below (rdOf_stable _) hb, h3.below (rdNod_stable _ _) hb⟩
structure NodAt (h : Nat) (w : World) (S : Nat → Prop) (b o : Nat) (n : Nod) (aa : Option Addr) (ac : Nat) (ka : Option Addr) (kc : Nat) : Prop where
  lt : b < w.heap.size
  tag : w.cell? ⟨b, o, none⟩ = some (.int .i64 n.tag)
  attrs : w.cell? ⟨b, o + 1, none⟩ = some (.slice aa n.attrs.length ac)
  text : w.cell? ⟨b, o + 2, none⟩ = some (.string ⟨n.text.toArray⟩)
  kids : w.cell? ⟨b, o + 3, none⟩ = some (.slice ka n.kids.length kc)
  attrsR : AttsR false w S (.slice aa n.attrs.length ac) n.attrs
  kidsR : NodsR false h w S (.slice ka n.kids.length kc) n.kids
theorem NodAt.below {h : Nat} {w w' : World} {S : Nat → Prop} {b o : Nat} {n : Nod} {aa ka : Option Addr} {ac kc : Nat} (hn : NodAt h w S b o n aa ac ka kc) (hb : Below w.heap.size w w') : NodAt h w' S b o n aa ac ka kc :=
  ⟨Nat.lt_of_lt_of_le hn.lt hb.size, (hb.cell hn.lt).trans hn.tag, (hb.cell hn.lt).trans hn.attrs, (hb.cell hn.lt).trans hn.text, (hb.cell hn.lt).trans hn.kids, hn.attrsR.below (rdOf_stable _) hb, hn.kidsR.below (rdNod_stable _ _) hb⟩
theorem nods_shape {h : Nat} {w : World} {S : Nat → Prop} {v : Value} {d : List Nod} (hd : NodsR false h w S v d) :
    ∃ a c, v = .slice a d.length c ∧ d.length ≤ c ∧ c ≤ maxLen ∧ ∀ i l, d[i]? = some l → ∃ b o aa ac ka kc h', h = h' + 1 ∧ a = some ⟨b, o, none⟩ ∧ NodAt h' w S b (o + i * 4) l aa ac ka kc := by
  obtain ⟨a, c, rfl, hc, hm, hx⟩ := SliceR.shape hd
  refine ⟨a, c, rfl, hc, hm, fun i l hl => ?_⟩
  obtain ⟨b, o, vs, rfl, hz, _, _, hR, he⟩ := hx i l hl
  match h, hR with
  | h' + 1, ⟨x, y, e, h1, h2⟩ =>
    subst e
    obtain ⟨aa, ac, rfl⟩ := h1.slice
    obtain ⟨ka, kc, rfl⟩ := h2.slice
    exact ⟨b, o, aa, ac, ka, kc, h', rfl, rfl, hz, he 0 _ rfl, he 1 _ rfl, he 2 _ rfl, he 3 _ rfl, h1, h2⟩
theorem atts_shape {w : World} {S : Nat → Prop} {v : Value} {d : List Att} (h : AttsR false w S v d) :
    ∃ a c, v = .slice a d.length c ∧ d.length ≤ c ∧ c ≤ maxLen ∧ ∀ i l, d[i]? = some l → ∃ b o, a = some ⟨b, o, none⟩ ∧ b < w.heap.size ∧ w.cell? ⟨b, o + i * 2, none⟩ = some (.string ⟨l.name.toArray⟩) ∧ w.cell? ⟨b, o + i * 2 + 1, none⟩ = some (.string ⟨l.value.toArray⟩) := by
  obtain ⟨a, c, rfl, hc, hm, hx⟩ := h.shape
  refine ⟨a, c, rfl, hc, hm, fun i l hl => ?_⟩
  obtain ⟨b, o, vs, rfl, hz, _, _, e, he⟩ := hx i l hl
  have e : vs = encAtt l := e
  subst e
  exact ⟨b, o, rfl, hz, he 0 _ rfl, he 1 _ rfl⟩
end Go.Proofs.Qw
