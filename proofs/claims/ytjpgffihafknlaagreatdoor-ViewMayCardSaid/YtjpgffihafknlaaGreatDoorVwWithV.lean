/- How a view's walk lies: its block, the row of its lines, each line's row of cells in a block of its own. -/
import Derived.Test.YtjpgffihafknlaaGreatDoorTagClassV
import Derived.Test.YtjpgffihafknlaaGreatDoorOpenPntV
import Derived.Lib.TrimAscii
import Derived.BigQuiet
import Derived.Deep.QuietTactic
import Derived.Deep.RegionHeld3
import Derived.Deep.DrawnRows
import Derived.Test.YtjpgffihafknlaaGreatDoorRefViewV
import Derived.Lib.OthersKept
import Derived.Lib.RuneCount
import Derived.Test.YtjpgffihafknlaaGreatDoorShelf
set_option linter.unusedVariables false
set_option linter.unusedSimpArgs false
namespace Go.Proofs.Qw
open Go.RowKit
theorem SliceR.typed {α : Type} {t : TypeId} {k : Nat} {R : Rd α} {w : World} {S : Nat → Prop} {v : Value} {xs : List α} (h : SliceR t k R true w S v xs) (hx : xs ≠ []) : ∀ b, v.ownBlock = some b → S b ∧ ∃ cs, w.heap[b]? = some (.cells cs t) := by
 obtain ⟨a, c, rfl, _, _, h | ⟨b, o, rfl, hb, hz, hf, he⟩⟩ := h
 ·exact absurd h.1 hx
 ·intro d hd
  cases hd
  obtain ⟨cs, f1, _⟩ := hf rfl
  exact ⟨hb, cs, f1⟩
theorem SliceR.own {α : Type} {t : TypeId} {k : Nat} {enc : α → List Value} {own : Bool} {w : World} {S : Nat → Prop} {v : Value} {xs : List α} (h : SliceR t k (rdOf enc) own w S v xs) : SliceR t k (rdOf enc) own w (fun b => S b ∧ v.ownBlock = some b) v xs := by
 obtain ⟨a, c, rfl, h2, h3, h | ⟨b, o, rfl, hb, hz, hf, he⟩⟩ := h
 ·exact ⟨a, c, rfl, h2, h3, .inl h⟩
 ·exact ⟨_, c, rfl, h2, h3, .inr ⟨b, o, rfl, ⟨hb, rfl⟩, hz, hf, he⟩⟩
theorem SliceR.grown {α : Type} {t s : TypeId} {k : Nat} {enc : α → List Value} {w w' : World} {S : Nat → Prop} {v : Value} {xs : List α} {row : Option Nat} (hst : s ≠ t) (h : SliceR s k (rdOf enc) true w S v xs) (hg : w.grownBy w' row) (hr : ∀ d, row = some d → ∃ cs, w.heap[d]? = some (.cells cs t)) : SliceR s k (rdOf enc) true w' S v xs :=
 SliceR.tagged (tagged_of _ _) hst h hg.size (fun b _ hz hn => hg.block b hz (fun e => by
  obtain ⟨cs, he⟩ := hr b e.symm
  exact hn cs he)) (fun _ h _ => h)
theorem SliceR.putT {α : Type} {t s : TypeId} {k : Nat} {enc : α → List Value} {w : World} {S : Nat → Prop} {v : Value} {xs : List α} (hst : s ≠ t) (h : SliceR s k (rdOf enc) true w S v xs) {b o : Nat} {cs : Array Value} {u : Value} (hb : w.heap[b]? = some (.cells cs t)) : SliceR s k (rdOf enc) true (w.setCell ⟨b, o, none⟩ u) S v xs :=
 SliceR.tagged (tagged_of _ _) hst h (by simp) (fun b' _ hz hn => Below.heap_setCell _ _ _ _ (fun e => hn cs (e ▸ hb))) (fun _ h _ => h)
end Go.Proofs.Qw
namespace Go.Proofs.YtjpgffihafknlaaGreatDoor
open Go.RowKit
open Go.Proofs.Qw
def rdLn : Rd (Lin × Option Nat) := fun w S vs x => ∃ a c, vs = [.int .i64 x.1.quote, a, .int .i64 x.1.kind, c] ∧ IntsR true w S a x.1.lists ∧ CelsR true w S c x.1.cells ∧ c.ownBlock = x.2 ∧ ∀ b, x.2 = some b → S b ∧ ∃ cs, w.heap[b]? = some (.cells cs 66)
theorem lt_of_heap {w : World} {b : Nat} {o : Obj} (h : w.heap[b]? = some o) : b < w.heap.size := (Array.getElem?_eq_some_iff.1 h).1
theorem rdLn_stable : Stable rdLn := ⟨fun w w' S S' vs x ⟨a, c, h1, h2, h3, h4, h5⟩ hk hS => ⟨a, c, h1, h2.stable (rdOf_stable _) hk hS, h3.stable (rdOf_stable _) hk hS, h4, fun b hb => by
 obtain ⟨g1, cs, g2⟩ := h5 b hb
 exact ⟨hS b g1 (lt_of_heap g2), cs, (hk.block b g1 (lt_of_heap g2)).trans g2⟩⟩⟩
theorem rdLn_tagged {t : TypeId} (h1 : 3 ≠ t) (h2 : 66 ≠ t) : Tagged t rdLn := ⟨fun w w' S S' vs x ⟨a, c, g1, g2, g3, g4, g5⟩ hz hk hS =>
 ⟨a, c, g1, SliceR.tagged (tagged_of _ _) h1 g2 hz hk hS, SliceR.tagged (tagged_of _ _) h2 g3 hz hk hS, g4, fun b hb => by
  obtain ⟨k1, cs, k2⟩ := g5 b hb
  exact ⟨hS b k1 (lt_of_heap k2), cs, (hk b k1 (lt_of_heap k2) (fun cs' e => by rw [k2] at e; cases e; exact h2 rfl)).trans k2⟩⟩⟩
theorem eltLn : Elt 37 4 rdLn :=
 ⟨by decide, fun _ _ _ _ ⟨_, _, h, _⟩ => by rw [h]; rfl, fun _ _ _ _ ⟨a, c, h, h2, h3, _⟩ u hu => by
  obtain ⟨_, _, rfl⟩ := h2.slice
  obtain ⟨_, _, rfl⟩ := h3.slice
  subst h
  simp at hu
  rcases hu with rfl | rfl | rfl | rfl <;> rfl, rdLn_tagged (by decide) (by decide), rdLn_stable⟩
structure LnsR (n : Nat) (w : World) (v : Value) (xs : List (Lin × Option Nat)) : Prop where
 row : SliceR 37 4 rdLn true w (fun b => n ≤ b) v xs
 apart : xs.Pairwise fun x y => ∀ b, y.2 = some b → x.2 ≠ some b
 blk : ∀ b, v.ownBlock = some b → n ≤ b ∧ ∃ cs, w.heap[b]? = some (.cells cs 37)
theorem LnsR.nil (n : Nat) (w : World) : LnsR n w (.slice none 0 0) [] := ⟨SliceR.nil _ _ _ _ _ _, .nil, fun _ h => by cases h⟩
theorem LnsR.stable {n : Nat} {w w' : World} {v : Value} {xs : List (Lin × Option Nat)} (h : LnsR n w v xs) (hk : Keeps (fun b => n ≤ b) w w') : LnsR n w' v xs :=
 ⟨h.row.stable rdLn_stable hk (fun _ h _ => h), h.apart, fun b hb => by
  obtain ⟨h1, cs, h2⟩ := h.blk b hb
  exact ⟨h1, cs, (hk.block b h1 (lt_of_heap h2)).trans h2⟩⟩
theorem LnsR.below {n : Nat} {w w' : World} {v : Value} {xs : List (Lin × Option Nat)} (h : LnsR n w v xs) (hb : Below w.heap.size w w') : LnsR n w' v xs := h.stable (.all hb)
theorem LnsR.app {n : Nat} {w w' : World} {v v' : Value} {xs : List (Lin × Option Nat)} {l : Lin} (h : LnsR n w v xs) (hr : SliceR 37 4 rdLn true w' (fun b => n ≤ b) v' (xs ++ [(l, none)])) : LnsR n w' v' (xs ++ [(l, none)]) :=
 ⟨hr, List.pairwise_append.2 ⟨h.apart, .cons (by simp) .nil, fun _ _ y hy b hb => by simp at hy; subst hy; cases hb⟩, hr.typed (by simp)⟩
theorem LnsR.last {n : Nat} {w : World} {v : Value} {xs : List (Lin × Option Nat)} {z : Lin × Option Nat} (h : LnsR n w v (xs ++ [z])) :
  ∃ b o c ca cc, v = .slice (some ⟨b, o, none⟩) (xs.length + 1) c ∧ xs.length + 1 ≤ c ∧ c ≤ maxLen ∧ n ≤ b ∧ b < w.heap.size ∧ (∃ cs, w.heap[b]? = some (.cells cs 37) ∧ o + c * 4 ≤ cs.size) ∧
   w.cell? ⟨b, o + xs.length * 4 + 3, none⟩ = some (.slice ca z.1.cells.length cc) ∧ CelsR true w (fun b => n ≤ b) (.slice ca z.1.cells.length cc) z.1.cells ∧ (Value.slice ca z.1.cells.length cc).ownBlock = z.2 ∧ ∀ b, z.2 = some b → n ≤ b ∧ ∃ cs, w.heap[b]? = some (.cells cs 66) := by
 obtain ⟨a, c, e, h2, h3, ⟨h0, _⟩ | ⟨b, o, rfl, hb, hz, hf, he⟩⟩ := h.row
 ·exact absurd h0 (by simp)
 obtain ⟨cs, f1, f2⟩ := hf rfl
 obtain ⟨vs, g1, ⟨la, cv, g2, g3, g4, g5, g6⟩, g7⟩ := he xs.length z (by simp)
 obtain ⟨ca, cc, rfl⟩ := g4.slice
 subst g2
 refine ⟨b, o, c, ca, cc, by rw [e]; simp, by simpa using h2, h3, hb, hz, ⟨cs, f1, f2⟩, g7 3 _ rfl, g4, g5, g6⟩
theorem LnsR.put {n : Nat} {w w1 : World} {b o c : Nat} {xs : List (Lin × Option Nat)} {z : Lin × Option Nat} {cv v' : Value} {l : List Cel} (h : LnsR n w (.slice (some ⟨b, o, none⟩) (xs.length + 1) c) (xs ++ [z])) (hz : cv.ownBlock = z.2) (hg : w.grownBy w1 cv.ownBlock) (hv : CelsR true w1 (fun b => n ≤ b) v' l) (hl : l ≠ []) (hob : v'.ownBlock = cv.ownBlock ∨ v'.ownBlock = some w.heap.size) :
  LnsR n (w1.setCell ⟨b, o + xs.length * 4 + 3, none⟩ v') (.slice (some ⟨b, o, none⟩) (xs.length + 1) c) (xs ++ [({ z.1 with cells := l }, v'.ownBlock)]) := by
 obtain ⟨a', c', e, h2, h3, hx⟩ := h.row
 simp only [List.length_append, List.length_singleton] at e h2
 cases e
 rcases hx with ⟨h0, _⟩ | ⟨b', o', e, hb, hbz, hf, he⟩
 ·exact absurd h0 (by simp)
 cases e
 obtain ⟨cs, f1, f2⟩ := hf rfl
 have hzB : ∀ d, cv.ownBlock = some d → n ≤ d ∧ ∃ cs, w.heap[d]? = some (.cells cs 66) := fun d hd => by
  obtain ⟨vs, g1, ⟨la, cv, g2, g3, g4, g5, g6⟩, g7⟩ := he xs.length z (by simp)
  exact g6 d (hz.symm.trans hd)
 have hrow : ∀ d, cv.ownBlock = some d → ∃ cs, w.heap[d]? = some (.cells cs 66) := fun d hd => (hzB d hd).2
 have hb1 : w1.heap[b]? = some (.cells cs 37) := (hg.block b hbz (fun e => by
  obtain ⟨cs', he'⟩ := hrow b e.symm
  rw [f1] at he'
  cases he')).trans f1
 have hvB : ∀ d, v'.ownBlock = some d → n ≤ d ∧ ∃ cs, w1.heap[d]? = some (.cells cs 66) := fun d hd => by
  obtain ⟨a, c, e, _, _, ⟨h0, _⟩ | ⟨b2, o2, rfl, k1, k2, k3, _⟩⟩ := hv
  ·exact absurd h0 hl
  ·subst e
   cases hd
   obtain ⟨cs, k3, _⟩ := k3 rfl
   exact ⟨k1, cs, k3⟩
 have hset : ∀ d, d ≠ b → (w1.setCell ⟨b, o + xs.length * 4 + 3, none⟩ v').heap[d]? = w1.heap[d]? := fun d hd => Below.heap_setCell _ _ _ _ hd
 have hcell : ∀ k, k ≠ o + xs.length * 4 + 3 → (w1.setCell ⟨b, o + xs.length * 4 + 3, none⟩ v').cell? ⟨b, k, none⟩ = w.cell? ⟨b, k, none⟩ := fun k hk => by
  rw [setCell_off (Ne.symm hk)]
  exact World.cell?_of_block (hb1.trans f1.symm)
 refine ⟨⟨_, c, by simp, by simpa using h2, h3, .inr ⟨b, o, rfl, hb, by simp; exact Nat.lt_of_lt_of_le hbz hg.size, fun _ => ⟨_, setCell_heap hb1 v', by simpa using f2⟩, fun i x hi => ?_⟩⟩, ?_, fun d hd => by cases hd; exact ⟨hb, _, setCell_heap hb1 v'⟩⟩
 ·by_cases hil : i < xs.length
  ·rw [List.getElem?_append_left hil] at hi
   obtain ⟨vs, g1, ⟨la, ca, g2, g3, g4, g5, g6⟩, g7⟩ := he i x (by rw [List.getElem?_append_left hil]; exact hi)
   have hap : ∀ d, x.2 = some d → some d ≠ cv.ownBlock := fun d hd e => by
    have := (List.pairwise_append.1 h.apart).2.2 x (List.mem_of_getElem? hi) z (by simp) d (hz.symm.trans e.symm)
    exact this hd
   refine ⟨vs, g1, ⟨la, ca, g2, (g3.grown (t := 66) (by decide) hg hrow).putT (by decide) hb1, ?_, g5, fun d hd => ?_⟩, fun j u hu => ?_⟩
   ·have k1 : CelsR true w1 (fun b => n ≤ b ∧ ca.ownBlock = some b) ca x.1.cells := (SliceR.own g4).stable (rdOf_stable _) ⟨hg.size, fun d hd hz' => hg.block d hz' (hap d (g5.symm.trans hd.2))⟩ (fun _ h _ => h)
    exact (k1.stable (rdOf_stable _) (Keeps.refl _ _) (fun _ h _ => h.1)).putT (by decide) hb1
   ·obtain ⟨k1, cs2, k2⟩ := g6 d hd
    refine ⟨k1, cs2, ?_⟩
    rw [hset d (fun e => by subst e; rw [f1] at k2; cases k2)]
    exact (hg.block d (lt_of_heap k2) (hap d hd)).trans k2
   ·rw [hcell _ (by have := (List.getElem?_eq_some_iff.1 hu).1; omega)]
    exact g7 j u hu
  ·have hil2 := (List.getElem?_eq_some_iff.1 hi).1
   simp only [List.length_append, List.length_singleton] at hil2
   obtain rfl : i = xs.length := by omega
   rw [List.getElem?_append_right (Nat.le_refl _), Nat.sub_self] at hi
   cases hi
   obtain ⟨vs, g1, ⟨la, ca, g2, g3, g4, g5, g6⟩, g7⟩ := he xs.length z (by simp)
   subst g2
   refine ⟨[.int .i64 z.1.quote, la, .int .i64 z.1.kind, v'], rfl, ⟨la, v', rfl, (g3.grown (t := 66) (by decide) hg hrow).putT (by decide) hb1, hv.putT (by decide) hb1, rfl, fun d hd => ?_⟩, fun j u hu => ?_⟩
   ·obtain ⟨k1, cs2, k2⟩ := hvB d hd
    refine ⟨k1, cs2, ?_⟩
    rw [hset d (fun e => by subst e; rw [hb1] at k2; cases k2)]
    exact k2
   ·by_cases hj : j = 3
    ·subst hj
     cases hu
     have hlt : o + xs.length * 4 + 3 < cs.size := by omega
     rw [cell_of_heap (setCell_heap hb1 v'), Array.getElem?_setIfInBounds]
     simp [hlt]
    ·have hjl := (List.getElem?_eq_some_iff.1 hu).1
     rw [hcell _ (by omega)]
     refine g7 j u ?_
     match j, hj, hjl, hu with
     | 0, _, _, hu => exact hu
     | 1, _, _, hu => exact hu
     | 2, _, _, hu => exact hu
     | 3, hj, _, _ => exact absurd rfl hj
     | j + 4, _, hjl, _ => exact absurd hjl (by simp only [List.length_cons, List.length_nil]; omega)
 ·refine List.pairwise_append.2 ⟨(List.pairwise_append.1 h.apart).1, .cons (by simp) .nil, fun x hx y hy d hd => ?_⟩
  simp at hy
  subst hy
  rcases hob with e | e
  ·exact (List.pairwise_append.1 h.apart).2.2 x hx z (by simp) d (hz.symm.trans (e.symm.trans hd))
  ·rw [e] at hd
   cases hd
   obtain ⟨i, hi⟩ := List.getElem?_of_mem hx
   have hil := (List.getElem?_eq_some_iff.1 hi).1
   obtain ⟨vs, g1, ⟨la, ca, g2, g3, g4, g5, g6⟩, g7⟩ := he i x (by rw [List.getElem?_append_left hil]; exact hi)
   intro e2
   obtain ⟨_, cs2, k2⟩ := g6 _ e2
   exact absurd (lt_of_heap k2) (Nat.lt_irrefl _)
theorem LnsR.doc {n : Nat} {w : World} {v : Value} {xs : List (Lin × Option Nat)} (h : LnsR n w v xs) : DocR true w (fun b => n ≤ b) v (xs.map (·.1)) := by
 obtain ⟨a, c, h1, h2, h3, h | ⟨b, o, rfl, hb, hz, hf, he⟩⟩ := h.row
 ·exact ⟨a, c, by rw [List.length_map]; exact h1, by rw [List.length_map]; exact h2, h3, .inl ⟨by rw [h.1]; rfl, h.2⟩⟩
 ·refine ⟨_, c, by rw [List.length_map]; exact h1, by rw [List.length_map]; exact h2, h3, .inr ⟨b, o, rfl, hb, hz, hf, fun i x hx => ?_⟩⟩
  rw [List.getElem?_map] at hx
  cases hy : xs[i]? with
  | none => rw [hy] at hx; cases hx
  | some y =>
   rw [hy] at hx
   cases hx
   obtain ⟨vs, g1, ⟨la, ca, g2, g3, g4, _, _⟩, g7⟩ := he i y hy
   exact ⟨vs, g1, ⟨la, ca, g2, g3, g4⟩, g7⟩
structure KeepT (B : Nat) (w w' : World) : Prop where
 os : w'.os = w.os
 tape : w'.tape = w.tape
 output : w'.output = w.output
 size : w.heap.size ≤ w'.heap.size
 block : ∀ b o, w.heap[b]? = some o → b ≠ B → (b < B ∨ ∀ cs f, o ≠ .cells cs 37 f ∧ o ≠ .cells cs 66 f) → w'.heap[b]? = some o
theorem KeepT.refl (B : Nat) (w : World) : KeepT B w w := ⟨rfl, rfl, rfl, Nat.le_refl _, fun _ _ h _ _ => h⟩
theorem KeepT.trans {B : Nat} {a b c : World} (h : KeepT B a b) (k : KeepT B b c) : KeepT B a c := ⟨k.os.trans h.os, k.tape.trans h.tape, k.output.trans h.output, Nat.le_trans h.size k.size, fun i o hi h1 h2 => k.block i o (h.block i o hi h1 h2) h1 h2⟩
theorem KeepT.of {B : Nat} {w w' : World} (h : Below w.heap.size w w') : KeepT B w w' := ⟨h.os, h.tape, h.output, h.size, fun i o hi _ _ => (h.block i (lt_of_heap hi)).trans hi⟩
theorem KeepT.below {B : Nat} {w w' : World} (h : KeepT B w w') (hB : B < w.heap.size) : Below B w w' := ⟨h.os, h.tape, h.output, h.size, fun k hk => by
 have hz : k < w.heap.size := Nat.lt_trans hk hB
 rw [h.block k w.heap[k] (Array.getElem?_eq_getElem hz) (by omega) (.inl hk), Array.getElem?_eq_getElem hz]⟩
theorem KeepT.set {B : Nat} (w : World) (o : Nat) (v : Value) : KeepT B w (w.setCell ⟨B, o, none⟩ v) := have h := (Below.refl B w).setCell (p := ⟨B, o, none⟩) (Nat.le_refl _) v; ⟨h.os, h.tape, h.output, h.size, fun b x hx hb _ => (Below.heap_setCell _ _ _ _ hb).trans hx⟩
theorem KeepT.grown {B : Nat} {w w' : World} {row : Option Nat} {t : TypeId} (ht : t = 37 ∨ t = 66) (hg : w.grownBy w' row) (hr : ∀ d, row = some d → B < d ∧ ∃ cs, w.heap[d]? = some (.cells cs t)) : KeepT B w w' :=
 ⟨hg.os, hg.tape, hg.output, hg.size, fun b o hb hne hk => (hg.block b (lt_of_heap hb) (fun e => by
  obtain ⟨h1, cs, h2⟩ := hr b e.symm
  rcases hk with h | h
  ·omega
  ·rw [h2] at hb
   cases hb
   rcases ht with rfl | rfl
   ·exact (h cs _).1 rfl
   ·exact (h cs _).2 rfl)).trans hb⟩
theorem KeepT.line {B : Nat} (w : World) {b : Nat} {cs : Array Value} (hb : w.heap[b]? = some (.cells cs 37)) (hB : B < b) (o : Nat) (v : Value) : KeepT B w (w.setCell ⟨b, o, none⟩ v) :=
 have h := (Below.refl b w).setCell (p := ⟨b, o, none⟩) (Nat.le_refl _) v
 ⟨h.os, h.tape, h.output, h.size, fun b' x hx _ hk => (Below.heap_setCell _ _ _ _ (fun e => by
  subst e
  rcases hk with h | h
  ·omega
  ·rw [hb] at hx
   cases hx
   exact (h cs _).1 rfl)).trans hx⟩
theorem KeepT.heap {B b : Nat} {w w' : World} {cs : Array Value} {t : TypeId} (h : KeepT B w w') (e : w.heap[b]? = some (.cells cs t)) (hb : b ≠ B) (h1 : t ≠ 37) (h2 : t ≠ 66) : w'.heap[b]? = some (.cells cs t) :=
 h.block b _ e hb (.inr fun cs f => ⟨fun e => by cases e; exact h1 rfl, fun e => by cases e; exact h2 rfl⟩)
theorem KeepT.row {B : Nat} {w w' : World} (h : KeepT B w w') {α : Type} {t : TypeId} {k : Nat} {enc : α → List Value} {v : Value} {xs : List α} (h1 : t ≠ 37) (h2 : t ≠ 66) (hv : SliceR t k (rdOf enc) true w (fun b => B < b) v xs) : SliceR t k (rdOf enc) true w' (fun b => B < b) v xs := by
 obtain ⟨a, c, e, g2, g3, g | ⟨b, o, rfl, hb, hz, hf, he⟩⟩ := hv
 ·exact ⟨a, c, e, g2, g3, .inl g⟩
 ·obtain ⟨cs, f1, f2⟩ := hf rfl
  have f1' := h.heap f1 (by omega) h1 h2
  exact ⟨_, c, e, g2, g3, .inr ⟨b, o, rfl, hb, Nat.lt_of_lt_of_le hz h.size, fun _ => ⟨cs, f1', f2⟩, fun i x hx => by
   obtain ⟨vs, k1, k2, k3⟩ := he i x hx
   exact ⟨vs, k1, k2, fun j u hu => by rw [World.cell?_of_block (w := w) (f1'.trans f1.symm)]; exact k3 j u hu⟩⟩⟩
def walkC (a : Aro) (lv : Value) (s : VSt) (lns : Value) : Array Value := #[.int .i64 a.quote, lv, .int .i64 a.kind, .slice none 0 0, .int .i64 a.bits, .string ⟨a.href.toArray⟩, lns, .int .i64 s.cells, .bool s.opn, .int .i64 s.spot, .int .i64 s.pos.line, .int .i64 s.pos.col]
def VwR (B : Nat) (w : World) (a : Aro) (lv : Value) (s : VSt) : Prop := ∃ lns xs, w.heap[B]? = some (.cells (walkC a lv s lns) 74) ∧ IntsR true w (fun b => B < b) lv a.lists ∧ LnsR (B + 1) w lns xs ∧ xs.map (·.1) = s.lines
theorem VwR.below {B : Nat} {w w' : World} {a : Aro} {lv : Value} {s : VSt} (h : VwR B w a lv s) (hb : Below w.heap.size w w') : VwR B w' a lv s := by
 obtain ⟨lns, xs, h1, h2, h3, h4⟩ := h
 exact ⟨lns, xs, heap_below hb h1, h2.below (rdOf_stable _) hb, h3.below hb, h4⟩
theorem VwR.lt {B : Nat} {w : World} {a : Aro} {lv : Value} {s : VSt} (h : VwR B w a lv s) : B < w.heap.size := by
 obtain ⟨lns, xs, h1, _⟩ := h
 exact lt_of_heap h1
theorem VwR.turn {B : Nat} {w : World} {a' : Aro} {lv' : Value} {s' : VSt} {lns : Value} {xs : List (Lin × Option Nat)} (h3 : LnsR (B + 1) w lns xs) {w' : World} (hw : ∀ b, b ≠ B → w'.heap[b]? = w.heap[b]?) (hz : w.heap.size ≤ w'.heap.size) (h1 : w'.heap[B]? = some (.cells (walkC a' lv' s' lns) 74)) (h2 : IntsR true w (fun b => B < b) lv' a'.lists) (h4 : xs.map (·.1) = s'.lines) : VwR B w' a' lv' s' :=
 ⟨lns, xs, h1, h2.stable (rdOf_stable _) ⟨hz, fun b hb _ => hw b (by omega)⟩ (fun _ h _ => h), h3.stable ⟨hz, fun b hb _ => hw b (by omega)⟩, h4⟩
end Go.Proofs.YtjpgffihafknlaaGreatDoor
namespace Go.Proofs.YtjpgffihafknlaaGreatDoor
open Go.RowKit
open Go.Proofs.Qw
attribute [local go_sem] Oper.semAt_some
theorem LnsR.lt {n : Nat} {w : World} {v : Value} {xs : List (Lin × Option Nat)} (h : LnsR n w v xs) : ∀ b, v.ownBlock = some b → b < w.heap.size := fun b hb => by
 obtain ⟨_, cs, h2⟩ := h.blk b hb
 exact lt_of_heap h2
theorem KeepT.lines {B : Nat} {w w' : World} {v : Value} {xs : List (Lin × Option Nat)} (h : LnsR (B + 1) w v xs) (hg : w.grownBy w' v.ownBlock) : KeepT B w w' :=
 KeepT.grown (.inl rfl) hg fun d hd => by
  obtain ⟨h1, h2⟩ := h.blk d hd
  exact ⟨h1, h2⟩
theorem KeepT.cells {B : Nat} {w w' : World} {v : Value} {z : Option Nat} (hz : v.ownBlock = z) (h : ∀ b, z = some b → B + 1 ≤ b ∧ ∃ cs, w.heap[b]? = some (.cells cs 66)) (hg : w.grownBy w' v.ownBlock) : KeepT B w w' :=
 KeepT.grown (.inr rfl) hg fun d hd => by
  obtain ⟨h1, h2⟩ := h d (hz.symm.trans hd)
  exact ⟨h1, h2⟩
structure SetB (B : Nat) (w w' : World) : Prop where
 keep : KeepT B w w'
 blk : ∀ b, b ≠ B → w'.heap[b]? = w.heap[b]?
 size : w'.heap.size = w.heap.size
theorem SetB.one (B : Nat) (w : World) (o : Nat) (v : Value) : SetB B w (w.setCell ⟨B, o, none⟩ v) := ⟨KeepT.set w o v, fun _ hb => Below.heap_setCell w ⟨B, o, none⟩ v _ hb, by simp⟩
theorem SetB.trans {B : Nat} {a b c : World} (h : SetB B a b) (k : SetB B b c) : SetB B a c := ⟨h.keep.trans k.keep, fun d hd => (k.blk d hd).trans (h.blk d hd), k.size.trans h.size⟩
set_option maxRecDepth 100000 in
set_option maxHeartbeats 4000000 in
theorem begin_any (B : Nat) (a : Aro) (lv : Value) (s : VSt) (w : World) (h : VwR B w a lv s) (hc : s.lines.length ≤ 10000000) (hl : a.lists.length ≤ 1000000) :
  Calls Tryz.prog 64 #[.pointer (some ⟨B, 0, none⟩)] w fun e w' => (∃ u, e = .returned u) ∧ VwR B w' a lv (beginV a s) ∧ KeepT B w w' := by
 obtain ⟨lns, xs, hB, hI, hL, hx⟩ := h
 have hBz := lt_of_heap hB
 have hxc : xs.length ≤ 10000000 := by rw [← hx, List.length_map] at hc; exact hc
 clear hc
 obtain ⟨na, nc, hne⟩ := hL.row.slice
 obtain ⟨la, lc, rfl⟩ := hI.slice
 have HCl : Hid (∀ W, Below w.heap.size w W → Calls Tryz.prog 62 #[.slice la a.lists.length lc] W fun e w' => ∃ va vc, e = .returned (.slice va a.lists.length vc) ∧ IntsR true w' (fun b => W.heap.size ≤ b) (.slice va a.lists.length vc) a.lists ∧ Below W.heap.size W w') := Lib.hid fun W hW => (cloneInt_any _ a.lists true W w _ hI hW hl).mono fun _ _ ⟨v', h1, h2, h3⟩ => by
  obtain ⟨va, vc, rfl⟩ := h2.slice
  exact ⟨va, vc, h1, h2, h3⟩
 subst hne
 unfold walkC at hB
 obtain ⟨p1, f1⟩ := blk hB
 have HB := Lib.hid hB
 have HI := Lib.hid hI
 have HL := Lib.hid hL
 have HX := Lib.hid hx
 obtain ⟨W1, hW1⟩ : ∃ W, w.alloc (.cells #[.int .i64 a.quote, .slice la a.lists.length lc, .int .i64 a.kind, .slice none 0 0] 37) = W := ⟨_, rfl⟩
 have hx1 : Below w.heap.size w W1 := hW1 ▸ (Below.refl _ _).alloc (Nat.le_refl _) _
 have hZ1 : W1.heap[w.heap.size]? = some (.cells #[.int .i64 a.quote, .slice la a.lists.length lc, .int .i64 a.kind, .slice none 0 0] 37) := hW1 ▸ heap_new _ _ rfl
 have hz1 : w.heap.size < W1.heap.size := lt_of_heap hZ1
 have HZ1 := Lib.hid hZ1
 have HW1 := Lib.hid hW1
 clear hI hL hx hB hW1 hZ1
 go_enter Tryz.func64, Tryz.ntmps64
 go_upto_region 2 with (go_at_call 62; rw [HW1.out]; refine (HCl.out _ hx1).mono ?_; rintro e w2 ⟨va, vc, rfl, hv2, hb2⟩; have HV2 := Lib.hid hv2; have hZ2 := heap_below hb2 HZ1.out; obtain ⟨q2, g2⟩ := blk hZ2; have HZ2 := Lib.hid hZ2; have HX2 := Lib.hid (below_from hx1 hb2); clear hv2 hb2 hZ2)
 have HKd : Hid ((frameA a).kind = if a.lists = [] then a.kind else 0) := Lib.hid rfl
 by_cases hl0 : a.lists = []
 ·have HN : Hid ((frameA a).kind = a.kind) := Lib.hid (by rw [HKd.out, if_pos hl0])
  have hgt : decide (0 < a.lists.length) = false := decide_eq_false (by rw [hl0]; decide)
  clear hl0
  go_upto_region 4 with fail
  obtain ⟨W4, hW4⟩ : ∃ W, (w2.setCell ⟨w.heap.size, 1, none⟩ (.slice va a.lists.length vc)) = W := ⟨_, rfl⟩
  rw [hW4]
  have hZ4 : W4.heap[w.heap.size]? = some (.cells #[.int .i64 a.quote, .slice va a.lists.length vc, .int .i64 a.kind, .slice none 0 0] 37) := hW4 ▸ setCell_heap HZ2.out _
  have hx4 : Below w.heap.size w W4 := hW4 ▸ HX2.out.setCell (Nat.le_refl _) _
  have HV4 : Hid (IntsR true W4 (fun b => B + 1 ≤ b) (.slice va a.lists.length vc) a.lists) := Lib.hid (hW4 ▸ HV2.out.stable (rdOf_stable _) ((Keeps.refl _ _).set (Nat.not_le_of_lt hz1) _) (fun b h _ => Nat.le_trans (Nat.succ_le_of_lt (Nat.lt_trans hBz hz1)) h))
  have hB4 := heap_below hx4 HB.out
  have hL4 := HL.out.below hx4
  clear hW4 q2 g2 p1 f1 hgt
  have HAB : Hid (∀ X : World, X.heap[w.heap.size]? = W4.heap[w.heap.size]? → X.cell? ⟨w.heap.size, 0, none⟩ = some (.int .i64 a.quote) ∧ X.cell? ⟨w.heap.size, 1, none⟩ = some (.slice va a.lists.length vc) ∧ X.cell? ⟨w.heap.size, 2, none⟩ = some (.int .i64 a.kind) ∧ X.cell? ⟨w.heap.size, 3, none⟩ = some (.slice none 0 0)) := Lib.hid fun X hX => ⟨by rw [(blk (hX.trans hZ4)).1 0]; rfl, by rw [(blk (hX.trans hZ4)).1 1]; rfl, by rw [(blk (hX.trans hZ4)).1 2]; rfl, by rw [(blk (hX.trans hZ4)).1 3]; rfl⟩
  have HBB : Hid (∀ X : World, X.heap[B]? = W4.heap[B]? → X.cell? ⟨B, 6, none⟩ = some (.slice na xs.length nc)) := Lib.hid fun X hX => by rw [(blk (hX.trans hB4)).1 6]; rfl
  refine wp_region_T (fun X => X.cell? ⟨w.heap.size, 0, none⟩ = some (.int .i64 a.quote) ∧ X.cell? ⟨w.heap.size, 1, none⟩ = some (.slice va a.lists.length vc) ∧ X.cell? ⟨w.heap.size, 2, none⟩ = some (.int .i64 a.kind) ∧ X.cell? ⟨w.heap.size, 3, none⟩ = some (.slice none 0 0)) (fun X => X.cell? ⟨B, 6, none⟩ = some (.slice na xs.length nc)) 10 (by kernel_rfl) ?_
  refine anyT_take (i := 0) (v := ?_) (by simp only [qA, qS, qZ]; rfl) (by kernel_rfl) (by kernel_rfl) (by kernel_rfl) (by kernel_rfl) (fun _ _ _ h => h) (Or.inl ⟨by rfl, ?_⟩) ⟨HAB.out _ rfl, HBB.out _ rfl⟩ ?_
  rotate_left 1
  ·intro w hSw; (try dsimp only at hSw); go_simp; (first | done | with_reducible rfl)
  try simp only [Act.put, qI, qX, qY]
  refine anyT_take (i := 1) (v := ?_) (by simp only [qA, qS, qZ]; rfl) (by kernel_rfl) (by kernel_rfl) (by kernel_rfl) (by kernel_rfl) (fun _ _ _ h => h) (Or.inl ⟨by rfl, ?_⟩) ⟨HAB.out _ rfl, HBB.out _ rfl⟩ ?_
  rotate_left 1
  ·intro w hSw; (try dsimp only at hSw); go_simp; (first | done | with_reducible rfl)
  try simp only [Act.put, qI, qX, qY]
  refine anyT_take (i := 2) (v := ?_) (by simp only [qA, qS, qZ]; rfl) (by kernel_rfl) (by kernel_rfl) (by kernel_rfl) (by kernel_rfl) (fun _ _ _ h => h) (Or.inl ⟨by rfl, ?_⟩) ⟨HAB.out _ rfl, HBB.out _ rfl⟩ ?_
  rotate_left 1
  ·intro w hSw; (try dsimp only at hSw); go_simp; (first | done | with_reducible rfl)
  try simp only [Act.put, qI, qX, qY]
  refine anyT_take (i := 3) (v := ?_) (by simp only [qA, qS, qZ]; rfl) (by kernel_rfl) (by kernel_rfl) (by kernel_rfl) (by kernel_rfl) (fun _ _ _ h => h) (Or.inl ⟨by rfl, ?_⟩) ⟨HAB.out _ rfl, HBB.out _ rfl⟩ ?_
  rotate_left 1
  ·intro w hSw; (try dsimp only at hSw); go_simp; (first | done | with_reducible rfl)
  try simp only [Act.put, qI, qX, qY]
  refine anyT_take (i := 4) (v := ?_) (by simp only [qA, qS, qZ]; rfl) (by kernel_rfl) (by kernel_rfl) (by kernel_rfl) (by kernel_rfl) (fun _ _ _ h => h) (Or.inl ⟨by rfl, ?_⟩) ⟨HAB.out _ rfl, HBB.out _ rfl⟩ ?_
  rotate_left 1
  ·intro w hSw; (try dsimp only at hSw); go_simp; (first | done | with_reducible rfl)
  try simp only [Act.put, qI, qX, qY]
  refine anyT_take (i := 5) (v := ?_) (by simp only [qA, qS, qZ]; rfl) (by kernel_rfl) (by kernel_rfl) (by kernel_rfl) (by kernel_rfl) (fun _ _ _ h => h) (Or.inl ⟨by rfl, ?_⟩) ⟨HAB.out _ rfl, HBB.out _ rfl⟩ ?_
  rotate_left 1
  ·intro w hSw; (try dsimp only at hSw); go_simp; (first | done | with_reducible rfl)
  try simp only [Act.put, qI, qX, qY]
  refine anyT_ready (rs := [6]) (by kernel_rfl) (by simp) ?_
  refine AllReadyT.cons (by simp only [qA, qS, qZ]; rfl) (fun K hK => ?_) AllReadyT.nil
  go_simp
  obtain ⟨X1, hX1⟩ : ∃ X, (W4.alloc (.cells #[.int .i64 a.quote, .slice va a.lists.length vc, .int .i64 a.kind, .slice none 0 0] 37)).drew = X := ⟨_, rfl⟩
  have hsrc : Src Tryz.prog 4 29 (.slice (some ⟨W4.heap.size, 0, none⟩) 1 1) 1 [.int .i64 a.quote, .slice va a.lists.length vc, .int .i64 a.kind, .slice none 0 0] X1 := by rw [← hX1]; exact src_one rowLine W4.drew [.int .i64 a.quote, .slice va a.lists.length vc, .int .i64 a.kind, .slice none 0 0] rfl (by intro u hu; simp at hu; rcases hu with rfl | rfl | rfl | rfl <;> rfl) 1
  have hx41 : Below W4.heap.size W4 X1 := hX1 ▸ ((Below.refl _ _).alloc (Nat.le_refl _) _).drew
  rw [hX1]
  clear hX1
  have hZ4z := lt_of_heap hZ4
  have hB4z := lt_of_heap hB4
  refine hK.out _ _ (HAB.out _ (hx41.block _ hZ4z)) (Or.inr (HBB.out _ (hx41.block _ hB4z))) ?_
  clear hK K
  try simp only [Act.put, qI, qX, qY]
  refine anyT_ready (rs := [7]) (by kernel_rfl) (by simp) ?_
  refine AllReadyT.cons (by simp only [qA, qS, qZ]; rfl) (fun K hK => ?_) AllReadyT.nil
  have hL5 := hL4.below hx41
  have hBX : B + 1 ≤ X1.heap.size := Nat.le_trans hB4z hx41.size
  refine step_append_R (by rfl) _ _ 29 29 (by rfl) rowLine eltLn (B + 1) (.slice na xs.length nc) _ (xs := xs) (ys := [(frameA a, none)]) (news := [.int .i64 a.quote, .slice va a.lists.length vc, .int .i64 a.kind, .slice none 0 0]) (by rfl) (by rfl) hL5.row hBX hsrc (NewsR.one rfl ⟨_, _, by rw [HN.out]; rfl, HV4.out.below (rdOf_stable _) hx41, SliceR.nil _ _ _ _ _ _, rfl, fun b hb => by cases hb⟩) (by simp; omega) ?_
  intro v6 y hR6 hBl6 hG6 hO6
  obtain ⟨va6, vc6, hv6⟩ := hR6.slice
  have hlen6 : (xs ++ [(frameA a, none)]).length = xs.length + 1 := by simp
  rw [hlen6] at hv6; clear hlen6
  subst hv6
  have hZ6 : y.heap[w.heap.size]? = W4.heap[w.heap.size]? := (hG6.block _ (Nat.lt_of_lt_of_le hZ4z hx41.size) (fun e => Nat.lt_irrefl _ (HL.out.lt _ e.symm))).trans (hx41.block _ hZ4z)
  have hB6 : y.heap[B]? = W4.heap[B]? := (hBl6.block _ (Nat.lt_succ_self _)).trans (hx41.block _ hB4z)
  refine hK.out _ _ (HAB.out _ hZ6) (Or.inr (HBB.out _ hB6)) ?_
  clear hK K
  try simp only [Act.put, qI, qX, qY]
  refine anyT_takeA (i := 8) (v := ?_) (by simp only [qA, qS, qZ]; rfl) (by kernel_rfl) (by kernel_rfl) (by kernel_rfl) (by kernel_rfl) (fun _ _ _ h => h) (Or.inl ⟨by rfl, ?_⟩) (HAB.out _ hZ6) (Or.inr (HBB.out _ hB6)) ?_
  rotate_left 1
  ·intro w hSw; (try dsimp only at hSw); go_simp; (first | done | with_reducible rfl)
  try simp only [Act.put, qI, qX, qY]
  refine anyT_takeA (i := 9) (v := ?_) (by simp only [qA, qS, qZ]; rfl) (by kernel_rfl) (by kernel_rfl) (by kernel_rfl) (by kernel_rfl) (fun _ _ _ h => h) (Or.inl ⟨by rfl, ?_⟩) (HAB.out _ hZ6) (Or.inr (HBB.out _ hB6)) ?_
  rotate_left 1
  ·intro w hSw; (try dsimp only at hSw); go_simp; (first | done | with_reducible rfl)
  try simp only [Act.put, qI, qX, qY]
  obtain ⟨p6, f6⟩ := blk (hB6.trans hB4)
  refine anyT_ready (rs := [10]) (by kernel_rfl) (by simp) ?_
  refine AllReadyT.cons (by simp only [qA, qS, qZ]; rfl) (fun K hK => ?_) AllReadyT.nil
  go_simp
  have hneZ : w.heap.size ≠ B := Nat.ne_of_gt hBz
  refine hK.out _ _ (HAB.out _ ((Below.heap_setCell y ⟨B, 6, none⟩ (.slice va6 (xs.length + 1) vc6) _ hneZ).trans hZ6)) (Or.inl (by rfl)) ?_
  clear hK K
  refine anyT_done (by kernel_rfl) ?_ _
  refine NoPanic.normal ?_
  have hL6 : LnsR (B + 1) y (.slice va6 (xs.length + 1) vc6) (xs ++ [(frameA a, none)]) := hL5.app hR6
  have hk6 : KeepT B w y := ((KeepT.of hx4).trans (KeepT.of hx41)).trans (KeepT.lines hL5 hG6)
  have hI6 := hk6.row (by decide) (by decide) HI.out
  obtain ⟨W7, hW7⟩ : ∃ X, y.setCell ⟨B, 6, none⟩ (.slice va6 (xs.length + 1) vc6) = X := ⟨_, rfl⟩
  rw [hW7]
  have hB7 : W7.heap[B]? = some (.cells #[.int .i64 a.quote, .slice la a.lists.length lc, .int .i64 a.kind, .slice none 0 0, .int .i64 a.bits, .string ⟨a.href.toArray⟩, .slice va6 (xs.length + 1) vc6, .int .i64 s.cells, .bool s.opn, .int .i64 s.spot, .int .i64 s.pos.line, .int .i64 s.pos.col] 74) := hW7 ▸ setCell_heap (hB6.trans hB4) _
  have hk7 : KeepT B w W7 := hW7 ▸ hk6.trans (KeepT.set y 6 _)
  have hL7 : LnsR (B + 1) W7 (.slice va6 (xs.length + 1) vc6) (xs ++ [(frameA a, none)]) := hW7 ▸ hL6.stable ((Keeps.refl _ _).set (Nat.not_succ_le_self B) _)
  have hI7 : IntsR true W7 (fun b => B < b) (.slice la a.lists.length lc) a.lists := hW7 ▸ hI6.stable (rdOf_stable _) ((Keeps.refl _ _).set (Nat.lt_irrefl B) _) (fun _ h _ => h)
  have HL7 := Lib.hid hL7
  have HI7 := Lib.hid hI7
  have HK7 := Lib.hid hk7
  have HB7 := Lib.hid hB7
  obtain ⟨p7, f7⟩ := blk hB7
  have hsp : s.spot = 1 ∨ s.spot ≠ 1 := by omega
  clear hW7 hL6 hk6 hI6 hL7 hI7 hk7 hB7 hR6 hBl6 hG6 hO6 hZ6 hB6 p6 f6 hL5 hL4 hB4 hZ4 hx4 hx41 hsrc
  rcases hsp with hsp | hsp
  ·have hb1 : (s.spot == 1) = true := by simpa using hsp
   rw [hsp] at p7
   go_wp2_with fail
   go_returns
   have e : beginV a s = ⟨s.lines ++ [frameA a], s.cells, true, 2, ⟨xs.length, 0⟩⟩ := by unfold beginV; rw [if_pos hsp, if_pos hsp, show s.lines.length = xs.length by rw [← HX.out, List.length_map]]
   have hS := (((SetB.one B W7 8 (.bool true)).trans (SetB.one B _ 9 (.int .i64 2))).trans (SetB.one B _ 10 (.int .i64 (xs.length : Int)))).trans (SetB.one B _ 11 (.int .i64 0))
   rw [e]
   exact ⟨⟨_, rfl⟩, VwR.turn HL7.out hS.blk (Nat.le_of_eq hS.size.symm) (setCell_heap (setCell_heap (setCell_heap (setCell_heap HB7.out _) _) _) _) HI7.out (by simp [HX.out]), HK7.out.trans hS.keep⟩
  ·have hb1 : (s.spot == 1) = false := by simpa using hsp
   go_wp2_with fail
   go_returns
   have e : beginV a s = ⟨s.lines ++ [frameA a], s.cells, true, s.spot, s.pos⟩ := by unfold beginV; rw [if_neg hsp, if_neg hsp]
   have hS := SetB.one B W7 8 (.bool true)
   rw [e]
   exact ⟨⟨_, rfl⟩, VwR.turn HL7.out hS.blk (Nat.le_of_eq hS.size.symm) (setCell_heap HB7.out _) HI7.out (by simp [HX.out]), HK7.out.trans hS.keep⟩
 ·have HN : Hid ((frameA a).kind = 0) := Lib.hid (by rw [HKd.out, if_neg hl0])
  have hlz : 0 < a.lists.length := List.length_pos_iff.2 hl0
  clear hl0
  go_upto_region 4 with fail
  obtain ⟨W4, hW4⟩ : ∃ W, ((w2.setCell ⟨w.heap.size, 1, none⟩ (.slice va a.lists.length vc)).setCell ⟨w.heap.size, 2, none⟩ (.int .i64 0)) = W := ⟨_, rfl⟩
  rw [hW4]
  have hZ4 : W4.heap[w.heap.size]? = some (.cells #[.int .i64 a.quote, .slice va a.lists.length vc, .int .i64 0, .slice none 0 0] 37) := hW4 ▸ setCell_heap (setCell_heap HZ2.out _) _
  have hx4 : Below w.heap.size w W4 := hW4 ▸ (HX2.out.setCell (Nat.le_refl _) _).setCell (Nat.le_refl _) _
  have HV4 : Hid (IntsR true W4 (fun b => B + 1 ≤ b) (.slice va a.lists.length vc) a.lists) := Lib.hid (hW4 ▸ HV2.out.stable (rdOf_stable _) (((Keeps.refl _ _).set (Nat.not_le_of_lt hz1) _).set (Nat.not_le_of_lt hz1) _) (fun b h _ => Nat.le_trans (Nat.succ_le_of_lt (Nat.lt_trans hBz hz1)) h))
  have hB4 := heap_below hx4 HB.out
  have hL4 := HL.out.below hx4
  clear hW4 q2 g2 p1 f1 hlz
  have HAB : Hid (∀ X : World, X.heap[w.heap.size]? = W4.heap[w.heap.size]? → X.cell? ⟨w.heap.size, 0, none⟩ = some (.int .i64 a.quote) ∧ X.cell? ⟨w.heap.size, 1, none⟩ = some (.slice va a.lists.length vc) ∧ X.cell? ⟨w.heap.size, 2, none⟩ = some (.int .i64 0) ∧ X.cell? ⟨w.heap.size, 3, none⟩ = some (.slice none 0 0)) := Lib.hid fun X hX => ⟨by rw [(blk (hX.trans hZ4)).1 0]; rfl, by rw [(blk (hX.trans hZ4)).1 1]; rfl, by rw [(blk (hX.trans hZ4)).1 2]; rfl, by rw [(blk (hX.trans hZ4)).1 3]; rfl⟩
  have HBB : Hid (∀ X : World, X.heap[B]? = W4.heap[B]? → X.cell? ⟨B, 6, none⟩ = some (.slice na xs.length nc)) := Lib.hid fun X hX => by rw [(blk (hX.trans hB4)).1 6]; rfl
  refine wp_region_T (fun X => X.cell? ⟨w.heap.size, 0, none⟩ = some (.int .i64 a.quote) ∧ X.cell? ⟨w.heap.size, 1, none⟩ = some (.slice va a.lists.length vc) ∧ X.cell? ⟨w.heap.size, 2, none⟩ = some (.int .i64 0) ∧ X.cell? ⟨w.heap.size, 3, none⟩ = some (.slice none 0 0)) (fun X => X.cell? ⟨B, 6, none⟩ = some (.slice na xs.length nc)) 10 (by kernel_rfl) ?_
  refine anyT_take (i := 0) (v := ?_) (by simp only [qA, qS, qZ]; rfl) (by kernel_rfl) (by kernel_rfl) (by kernel_rfl) (by kernel_rfl) (fun _ _ _ h => h) (Or.inl ⟨by rfl, ?_⟩) ⟨HAB.out _ rfl, HBB.out _ rfl⟩ ?_
  rotate_left 1
  ·intro w hSw; (try dsimp only at hSw); go_simp; (first | done | with_reducible rfl)
  try simp only [Act.put, qI, qX, qY]
  refine anyT_take (i := 1) (v := ?_) (by simp only [qA, qS, qZ]; rfl) (by kernel_rfl) (by kernel_rfl) (by kernel_rfl) (by kernel_rfl) (fun _ _ _ h => h) (Or.inl ⟨by rfl, ?_⟩) ⟨HAB.out _ rfl, HBB.out _ rfl⟩ ?_
  rotate_left 1
  ·intro w hSw; (try dsimp only at hSw); go_simp; (first | done | with_reducible rfl)
  try simp only [Act.put, qI, qX, qY]
  refine anyT_take (i := 2) (v := ?_) (by simp only [qA, qS, qZ]; rfl) (by kernel_rfl) (by kernel_rfl) (by kernel_rfl) (by kernel_rfl) (fun _ _ _ h => h) (Or.inl ⟨by rfl, ?_⟩) ⟨HAB.out _ rfl, HBB.out _ rfl⟩ ?_
  rotate_left 1
  ·intro w hSw; (try dsimp only at hSw); go_simp; (first | done | with_reducible rfl)
  try simp only [Act.put, qI, qX, qY]
  refine anyT_take (i := 3) (v := ?_) (by simp only [qA, qS, qZ]; rfl) (by kernel_rfl) (by kernel_rfl) (by kernel_rfl) (by kernel_rfl) (fun _ _ _ h => h) (Or.inl ⟨by rfl, ?_⟩) ⟨HAB.out _ rfl, HBB.out _ rfl⟩ ?_
  rotate_left 1
  ·intro w hSw; (try dsimp only at hSw); go_simp; (first | done | with_reducible rfl)
  try simp only [Act.put, qI, qX, qY]
  refine anyT_take (i := 4) (v := ?_) (by simp only [qA, qS, qZ]; rfl) (by kernel_rfl) (by kernel_rfl) (by kernel_rfl) (by kernel_rfl) (fun _ _ _ h => h) (Or.inl ⟨by rfl, ?_⟩) ⟨HAB.out _ rfl, HBB.out _ rfl⟩ ?_
  rotate_left 1
  ·intro w hSw; (try dsimp only at hSw); go_simp; (first | done | with_reducible rfl)
  try simp only [Act.put, qI, qX, qY]
  refine anyT_take (i := 5) (v := ?_) (by simp only [qA, qS, qZ]; rfl) (by kernel_rfl) (by kernel_rfl) (by kernel_rfl) (by kernel_rfl) (fun _ _ _ h => h) (Or.inl ⟨by rfl, ?_⟩) ⟨HAB.out _ rfl, HBB.out _ rfl⟩ ?_
  rotate_left 1
  ·intro w hSw; (try dsimp only at hSw); go_simp; (first | done | with_reducible rfl)
  try simp only [Act.put, qI, qX, qY]
  refine anyT_ready (rs := [6]) (by kernel_rfl) (by simp) ?_
  refine AllReadyT.cons (by simp only [qA, qS, qZ]; rfl) (fun K hK => ?_) AllReadyT.nil
  go_simp
  obtain ⟨X1, hX1⟩ : ∃ X, (W4.alloc (.cells #[.int .i64 a.quote, .slice va a.lists.length vc, .int .i64 0, .slice none 0 0] 37)).drew = X := ⟨_, rfl⟩
  have hsrc : Src Tryz.prog 4 29 (.slice (some ⟨W4.heap.size, 0, none⟩) 1 1) 1 [.int .i64 a.quote, .slice va a.lists.length vc, .int .i64 0, .slice none 0 0] X1 := by rw [← hX1]; exact src_one rowLine W4.drew [.int .i64 a.quote, .slice va a.lists.length vc, .int .i64 0, .slice none 0 0] rfl (by intro u hu; simp at hu; rcases hu with rfl | rfl | rfl | rfl <;> rfl) 1
  have hx41 : Below W4.heap.size W4 X1 := hX1 ▸ ((Below.refl _ _).alloc (Nat.le_refl _) _).drew
  rw [hX1]
  clear hX1
  have hZ4z := lt_of_heap hZ4
  have hB4z := lt_of_heap hB4
  refine hK.out _ _ (HAB.out _ (hx41.block _ hZ4z)) (Or.inr (HBB.out _ (hx41.block _ hB4z))) ?_
  clear hK K
  try simp only [Act.put, qI, qX, qY]
  refine anyT_ready (rs := [7]) (by kernel_rfl) (by simp) ?_
  refine AllReadyT.cons (by simp only [qA, qS, qZ]; rfl) (fun K hK => ?_) AllReadyT.nil
  have hL5 := hL4.below hx41
  have hBX : B + 1 ≤ X1.heap.size := Nat.le_trans hB4z hx41.size
  refine step_append_R (by rfl) _ _ 29 29 (by rfl) rowLine eltLn (B + 1) (.slice na xs.length nc) _ (xs := xs) (ys := [(frameA a, none)]) (news := [.int .i64 a.quote, .slice va a.lists.length vc, .int .i64 0, .slice none 0 0]) (by rfl) (by rfl) hL5.row hBX hsrc (NewsR.one rfl ⟨_, _, by rw [HN.out]; rfl, HV4.out.below (rdOf_stable _) hx41, SliceR.nil _ _ _ _ _ _, rfl, fun b hb => by cases hb⟩) (by simp; omega) ?_
  intro v6 y hR6 hBl6 hG6 hO6
  obtain ⟨va6, vc6, hv6⟩ := hR6.slice
  have hlen6 : (xs ++ [(frameA a, none)]).length = xs.length + 1 := by simp
  rw [hlen6] at hv6; clear hlen6
  subst hv6
  have hZ6 : y.heap[w.heap.size]? = W4.heap[w.heap.size]? := (hG6.block _ (Nat.lt_of_lt_of_le hZ4z hx41.size) (fun e => Nat.lt_irrefl _ (HL.out.lt _ e.symm))).trans (hx41.block _ hZ4z)
  have hB6 : y.heap[B]? = W4.heap[B]? := (hBl6.block _ (Nat.lt_succ_self _)).trans (hx41.block _ hB4z)
  refine hK.out _ _ (HAB.out _ hZ6) (Or.inr (HBB.out _ hB6)) ?_
  clear hK K
  try simp only [Act.put, qI, qX, qY]
  refine anyT_takeA (i := 8) (v := ?_) (by simp only [qA, qS, qZ]; rfl) (by kernel_rfl) (by kernel_rfl) (by kernel_rfl) (by kernel_rfl) (fun _ _ _ h => h) (Or.inl ⟨by rfl, ?_⟩) (HAB.out _ hZ6) (Or.inr (HBB.out _ hB6)) ?_
  rotate_left 1
  ·intro w hSw; (try dsimp only at hSw); go_simp; (first | done | with_reducible rfl)
  try simp only [Act.put, qI, qX, qY]
  refine anyT_takeA (i := 9) (v := ?_) (by simp only [qA, qS, qZ]; rfl) (by kernel_rfl) (by kernel_rfl) (by kernel_rfl) (by kernel_rfl) (fun _ _ _ h => h) (Or.inl ⟨by rfl, ?_⟩) (HAB.out _ hZ6) (Or.inr (HBB.out _ hB6)) ?_
  rotate_left 1
  ·intro w hSw; (try dsimp only at hSw); go_simp; (first | done | with_reducible rfl)
  try simp only [Act.put, qI, qX, qY]
  obtain ⟨p6, f6⟩ := blk (hB6.trans hB4)
  refine anyT_ready (rs := [10]) (by kernel_rfl) (by simp) ?_
  refine AllReadyT.cons (by simp only [qA, qS, qZ]; rfl) (fun K hK => ?_) AllReadyT.nil
  go_simp
  have hneZ : w.heap.size ≠ B := Nat.ne_of_gt hBz
  refine hK.out _ _ (HAB.out _ ((Below.heap_setCell y ⟨B, 6, none⟩ (.slice va6 (xs.length + 1) vc6) _ hneZ).trans hZ6)) (Or.inl (by rfl)) ?_
  clear hK K
  refine anyT_done (by kernel_rfl) ?_ _
  refine NoPanic.normal ?_
  have hL6 : LnsR (B + 1) y (.slice va6 (xs.length + 1) vc6) (xs ++ [(frameA a, none)]) := hL5.app hR6
  have hk6 : KeepT B w y := ((KeepT.of hx4).trans (KeepT.of hx41)).trans (KeepT.lines hL5 hG6)
  have hI6 := hk6.row (by decide) (by decide) HI.out
  obtain ⟨W7, hW7⟩ : ∃ X, y.setCell ⟨B, 6, none⟩ (.slice va6 (xs.length + 1) vc6) = X := ⟨_, rfl⟩
  rw [hW7]
  have hB7 : W7.heap[B]? = some (.cells #[.int .i64 a.quote, .slice la a.lists.length lc, .int .i64 a.kind, .slice none 0 0, .int .i64 a.bits, .string ⟨a.href.toArray⟩, .slice va6 (xs.length + 1) vc6, .int .i64 s.cells, .bool s.opn, .int .i64 s.spot, .int .i64 s.pos.line, .int .i64 s.pos.col] 74) := hW7 ▸ setCell_heap (hB6.trans hB4) _
  have hk7 : KeepT B w W7 := hW7 ▸ hk6.trans (KeepT.set y 6 _)
  have hL7 : LnsR (B + 1) W7 (.slice va6 (xs.length + 1) vc6) (xs ++ [(frameA a, none)]) := hW7 ▸ hL6.stable ((Keeps.refl _ _).set (Nat.not_succ_le_self B) _)
  have hI7 : IntsR true W7 (fun b => B < b) (.slice la a.lists.length lc) a.lists := hW7 ▸ hI6.stable (rdOf_stable _) ((Keeps.refl _ _).set (Nat.lt_irrefl B) _) (fun _ h _ => h)
  have HL7 := Lib.hid hL7
  have HI7 := Lib.hid hI7
  have HK7 := Lib.hid hk7
  have HB7 := Lib.hid hB7
  obtain ⟨p7, f7⟩ := blk hB7
  have hsp : s.spot = 1 ∨ s.spot ≠ 1 := by omega
  clear hW7 hL6 hk6 hI6 hL7 hI7 hk7 hB7 hR6 hBl6 hG6 hO6 hZ6 hB6 p6 f6 hL5 hL4 hB4 hZ4 hx4 hx41 hsrc
  rcases hsp with hsp | hsp
  ·have hb1 : (s.spot == 1) = true := by simpa using hsp
   rw [hsp] at p7
   go_wp2_with fail
   go_returns
   have e : beginV a s = ⟨s.lines ++ [frameA a], s.cells, true, 2, ⟨xs.length, 0⟩⟩ := by unfold beginV; rw [if_pos hsp, if_pos hsp, show s.lines.length = xs.length by rw [← HX.out, List.length_map]]
   have hS := (((SetB.one B W7 8 (.bool true)).trans (SetB.one B _ 9 (.int .i64 2))).trans (SetB.one B _ 10 (.int .i64 (xs.length : Int)))).trans (SetB.one B _ 11 (.int .i64 0))
   rw [e]
   exact ⟨⟨_, rfl⟩, VwR.turn HL7.out hS.blk (Nat.le_of_eq hS.size.symm) (setCell_heap (setCell_heap (setCell_heap (setCell_heap HB7.out _) _) _) _) HI7.out (by simp [HX.out]), HK7.out.trans hS.keep⟩
  ·have hb1 : (s.spot == 1) = false := by simpa using hsp
   go_wp2_with fail
   go_returns
   have e : beginV a s = ⟨s.lines ++ [frameA a], s.cells, true, s.spot, s.pos⟩ := by unfold beginV; rw [if_neg hsp, if_neg hsp]
   have hS := SetB.one B W7 8 (.bool true)
   rw [e]
   exact ⟨⟨_, rfl⟩, VwR.turn HL7.out hS.blk (Nat.le_of_eq hS.size.symm) (setCell_heap HB7.out _) HI7.out (by simp [HX.out]), HK7.out.trans hS.keep⟩
set_option maxRecDepth 100000 in
set_option maxHeartbeats 4000000 in
theorem met_any (B : Nat) (a : Aro) (lv : Value) (s : VSt) (w : World) (h : VwR B w a lv s) (ho : OpW s) (hc : s.lines.length ≤ 10000000) :
  Calls Tryz.prog 93 #[.pointer (some ⟨B, 0, none⟩)] w fun e w' => (∃ u, e = .returned u) ∧ VwR B w' a lv (metV s) ∧ KeepT B w w' := by
 have h0 := h
 obtain ⟨lns, xs, hB, hI, hL, hx⟩ := h
 have hBz := lt_of_heap hB
 by_cases hs : s.spot ≠ 0
 ·have e : metV s = s := by unfold metV; rw [if_pos hs]
  have hb0 : (s.spot != 0) = true := by simpa using hs
  unfold walkC at hB
  obtain ⟨p1, f1⟩ := blk hB
  have H0 := Lib.hid h0
  clear hI hL hx hB h0 hs
  go_enter Tryz.func93, Tryz.ntmps93
  go_wp2_with fail
  go_returns
  rw [e]
  exact ⟨⟨_, rfl⟩, H0.out, KeepT.refl _ _⟩
 have hs0 : s.spot = 0 := by omega
 by_cases hop : s.opn = true
 ·obtain ⟨m, l, hml⟩ := snoc_of (ho.some hop)
  obtain ⟨xs0, z, rfl⟩ : ∃ xs0 z, xs = xs0 ++ [z] := by
   have hne : xs ≠ [] := fun e => by subst e; rw [hml] at hx; simp at hx
   exact ⟨xs.dropLast, xs.getLast hne, (List.dropLast_concat_getLast hne).symm⟩
  have hxl : s.lines.length = xs0.length + 1 := by rw [← hx]; simp
  obtain ⟨b, o, c, ca, cc, rfl, hc1, hc2, hbn, hbz, ⟨cs, hbh, hbs⟩, d3, hCR, _, _⟩ := hL.last
  have hlast : (s.lines.getLastD default).cells = z.1.cells := by rw [← hx]; simp [List.getLastD_eq_getLast?]
  have e : metV s = { s with spot := 2, pos := ⟨(xs0.length : Int), (z.1.cells.length : Int)⟩ } := by
   unfold metV
   rw [if_neg hs, if_pos hop, hlast, hxl]
   simp
  obtain ⟨hcl1, hcl2⟩ : z.1.cells.length ≤ cc ∧ cc ≤ maxLen := ⟨(SliceR.len hCR).2.1, (SliceR.len hCR).2.2⟩
  have HB := Lib.hid hB
  have HI := Lib.hid hI
  have HL := Lib.hid hL
  have HX := Lib.hid hx
  unfold walkC at hB
  rw [hs0, hop] at hB
  obtain ⟨p1, f1⟩ := blk hB
  obtain ⟨pb, fb⟩ := blk hbh
  have hxc : xs0.length ≤ 10000000 := by omega
  have i0 : (0 : Int) ≤ (xs0.length : Int) := Int.natCast_nonneg _
  clear hI hL hx hB hml hxl hlast hc hs hs0 hop hCR hbh hbs hc1 hc2 pb h0 ho
  go_enter Tryz.func93, Tryz.ntmps93
  go_wp2_with fail
  go_returns
  have hS := ((SetB.one B w 9 (.int .i64 2)).trans (SetB.one B _ 10 (.int .i64 (xs0.length : Int)))).trans (SetB.one B _ 11 (.int .i64 (z.1.cells.length : Int)))
  rw [e]
  exact ⟨⟨_, rfl⟩, VwR.turn HL.out hS.blk (Nat.le_of_eq hS.size.symm) (setCell_heap (setCell_heap (setCell_heap HB.out _) _) _) HI.out HX.out, hS.keep⟩
 ·have hopf : s.opn = false := by simpa using hop
  have e : metV s = { s with spot := 1 } := by unfold metV; rw [if_neg hs, if_neg hop]
  have HB := Lib.hid hB
  have HI := Lib.hid hI
  have HL := Lib.hid hL
  have HX := Lib.hid hx
  unfold walkC at hB
  rw [hs0, hopf] at hB
  obtain ⟨p1, f1⟩ := blk hB
  clear hI hL hx hB hs hs0 hop hopf h0 ho
  go_enter Tryz.func93, Tryz.ntmps93
  go_wp2_with fail
  go_returns
  have hS := SetB.one B w 9 (.int .i64 1)
  rw [e]
  exact ⟨⟨_, rfl⟩, VwR.turn HL.out hS.blk (Nat.le_of_eq hS.size.symm) (setCell_heap HB.out _) HI.out HX.out, hS.keep⟩
end Go.Proofs.YtjpgffihafknlaaGreatDoor
namespace Go.Proofs.YtjpgffihafknlaaGreatDoor
open Go.RowKit
open Go.Proofs.Qw
attribute [local go_sem] Oper.semAt_some
set_option maxRecDepth 100000 in
set_option maxHeartbeats 4000000 in
theorem put_any (B : Nat) (a : Aro) (lv : Value) (s : VSt) (c : Int) (w : World) (h : VwR B w a lv s) (ho : OpW s) (hc : capV s ≤ 10000000) (hl : a.lists.length ≤ 1000000) :
  Calls Tryz.prog 94 #[.pointer (some ⟨B, 0, none⟩), .int .i32 c] w fun e w' => (∃ u, e = .returned u) ∧ VwR B w' a lv (putV a c s) ∧ KeepT B w w' := by
 have h0 := h
 have hcl : capV s ≤ 10000000 := hc
 obtain ⟨s1, hs1⟩ : ∃ t, (if s.opn = true then s else beginV a s) = t := ⟨_, rfl⟩
 have hput : putV a c s = addV a c s1 := by unfold putV; rw [hs1]
 have hs1l : s1.lines ≠ [] := by rw [← hs1]; split; exact ho.some (by assumption); simp [beginV]
 have hs1c : capV s1 ≤ 10000001 := by rw [← hs1]; split; omega; rw [cap_begin]; omega
 have HB0 : Hid (s.opn = false → ∀ W, W = w → Calls Tryz.prog 64 #[.pointer (some ⟨B, 0, none⟩)] W fun e w' => (∃ u, e = .returned u) ∧ VwR B w' a lv s1 ∧ KeepT B w w') := Lib.hid fun hf W e => by
  subst e
  rw [hf, if_neg (by simp)] at hs1
  rw [← hs1]
  exact begin_any B a lv s W h0 (by unfold capV at hcl; omega) hl
 have HB1 : Hid (s.opn = true → VwR B w a lv s1) := Lib.hid fun ht => by rw [← hs1, if_pos ht]; exact h0
 have HP := Lib.hid hput
 have hs1w : s1.cells = sizeL s1.lines := by rw [← hs1]; split; exact ho.cells; exact (opw_begin a ho).cells
 have HS1 := Lib.hid (And.intro hs1l (And.intro hs1c hs1w))
 obtain ⟨o, hop⟩ : ∃ o, s.opn = o := ⟨_, rfl⟩
 rw [hop] at HB0 HB1
 obtain ⟨lns, xs, hB, hI, hL, hx⟩ := h
 have hBz := lt_of_heap hB
 unfold walkC at hB
 rw [hop] at hB
 obtain ⟨p1, f1⟩ := blk hB
 clear hI hL hx hB hput hs1 hs1l hs1c hs1w h0 hcl ho hc hl hop
 go_enter Tryz.func94, Tryz.ntmps94
 go_upto_if 9 with fail
 go_cut [11] from 10 to 11 (fun _ wx => VwR B wx a lv s1 ∧ KeepT B w wx)
 case first => as_aux_lemma =>
  cases o
  ·have HB2 := Lib.hid (HB0.out rfl)
   go_wp2_with (go_at_call 64; refine (HB2.out _ rfl).mono ?_; rintro e w2 ⟨⟨u, rfl⟩, hv2, hk2⟩)
   go_meet
   case rel => exact ⟨hv2, hk2⟩
  ·have h1 := HB1.out rfl
   go_wp2_with fail
   go_meet
   case rel => exact ⟨h1, KeepT.refl _ _⟩
 case rest =>
 obtain ⟨hv, hk⟩ := hcut
 clear p1 f1 HB0 HB1
 obtain ⟨lns, xs, hB, hI, hL, hx⟩ := hv
 obtain ⟨m, l, hml⟩ := snoc_of HS1.out.1
 obtain ⟨xs0, z, rfl⟩ : ∃ xs0 z, xs = xs0 ++ [z] := by
  have hne : xs ≠ [] := fun e => by subst e; rw [hml] at hx; simp at hx
  exact ⟨xs.dropLast, xs.getLast hne, (List.dropLast_concat_getLast hne).symm⟩
 have hxz : s1.lines = xs0.map (·.1) ++ [z.1] := by rw [← hx]; simp
 have hxc : xs0.length ≤ 10000001 ∧ z.1.cells.length ≤ 10000001 ∧ s1.cells ≤ 10000001 := by
  have h1 := HS1.out.2.1
  unfold capV at h1
  have h2 : s1.lines.length = xs0.length + 1 := by rw [hxz]; simp
  have h3 := HS1.out.2.2
  rw [hxz] at h3
  unfold sizeL at h3
  simp only [List.map_append, List.sum_append, List.map_cons, List.map_nil, List.sum_cons, List.sum_nil] at h3
  exact ⟨by omega, by omega, by omega⟩
 obtain ⟨b, q, cp, ca, cc, rfl, hc1, hc2, hbn, hbz, ⟨cs, hbh, hbs⟩, d3, hCR, hzo, hzt⟩ := hL.last
 obtain ⟨la, lc, rfl⟩ := hI.slice
 obtain ⟨hcl1, hcl2⟩ : z.1.cells.length ≤ cc ∧ cc ≤ maxLen := ⟨(SliceR.len hCR).2.1, (SliceR.len hCR).2.2⟩
 have HB := Lib.hid hB
 have HI := Lib.hid hI
 have HL := Lib.hid hL
 have HX := Lib.hid hx
 have HZ := Lib.hid (And.intro hzo hzt)
 have HCR := Lib.hid hCR
 have HBH := Lib.hid (And.intro hbh (And.intro hbz hbn))
 have HK := Lib.hid hk
 have HXZ := Lib.hid hxz
 unfold walkC at hB
 obtain ⟨p1, f1⟩ := blk hB
 have i0 : (0 : Int) ≤ (xs0.length : Int) := Int.natCast_nonneg _
 unfold maxLen at hc2 hcl2
 clear hI hL hx hB hml hxz hCR hzo hzt hbh hbs hbn hbz hk
 go_upto_region 2 with fail
 go_quiet (fail)
 obtain ⟨V, hVe⟩ : ∃ V, wc.drewN nq = V := ⟨_, rfl⟩
 have hV : Below wc.heap.size wc V := hVe ▸ drewN_below (Below.refl _ _)
 rw [hVe]
 clear hVe p1 f1
 have hcellB : wc.heap[B]? = some (.cells #[.int .i64 a.quote, .slice la a.lists.length lc, .int .i64 a.kind, .slice none 0 0, .int .i64 a.bits, .string ⟨a.href.toArray⟩, .slice (some ⟨b, q, none⟩) (xs0.length + 1) cp, .int .i64 s1.cells, .bool s1.opn, .int .i64 s1.spot, .int .i64 s1.pos.line, .int .i64 s1.pos.col] 74) := by
  have := HB.out
  exact this
 have hBz : B < wc.heap.size := lt_of_heap hcellB
 have HAB : Hid (∀ X : World, X.heap[B]? = wc.heap[B]? → X.cell? ⟨B, 4, none⟩ = some (.int .i64 a.bits) ∧ X.cell? ⟨B, 5, none⟩ = some (.string ⟨a.href.toArray⟩)) := Lib.hid fun X hX => ⟨by rw [(blk (hX.trans hcellB)).1 4]; rfl, by rw [(blk (hX.trans hcellB)).1 5]; rfl⟩
 have HBB : Hid (∀ X : World, X.heap[b]? = wc.heap[b]? → X.cell? ⟨b, q + xs0.length * 4 + 3, none⟩ = some (.slice ca z.1.cells.length cc)) := Lib.hid fun X hX => (World.cell?_of_block hX).trans d3
 have HFB : Hid (∀ X : World, X.heap[b]? = wc.heap[b]? → ∀ k, X.frozen? ⟨b, k, none⟩ = false) := Lib.hid fun X hX k => frozen_of_heap (hX.trans HBH.out.1)
 have h4B := hV.block _ hBz
 have h4b := hV.block _ HBH.out.2.1
 go_upto_region 3 with fail
 refine wp_region_T (fun X => X.cell? ⟨B, 4, none⟩ = some (.int .i64 a.bits) ∧ X.cell? ⟨B, 5, none⟩ = some (.string ⟨a.href.toArray⟩)) (fun X => X.cell? ⟨b, q + xs0.length * 4 + 3, none⟩ = some (.slice ca z.1.cells.length cc)) 21 (by kernel_rfl) ?_
 refine anyT_take (i := 0) (v := ?_) (by simp only [qA, qS, qZ]; rfl) (by kernel_rfl) (by kernel_rfl) (by kernel_rfl) (by kernel_rfl) (fun _ _ _ h => h) (Or.inl ⟨by rfl, ?_⟩) ⟨HAB.out _ h4B, HBB.out _ h4b⟩ ?_
 rotate_left 1
 ·intro w hSw; (try dsimp only at hSw); go_simp; (first | done | with_reducible rfl)
 try simp only [Act.put, qI, qX, qY]
 refine anyT_take (i := 1) (v := ?_) (by simp only [qA, qS, qZ]; rfl) (by kernel_rfl) (by kernel_rfl) (by kernel_rfl) (by kernel_rfl) (fun _ _ _ h => h) (Or.inl ⟨by rfl, ?_⟩) ⟨HAB.out _ h4B, HBB.out _ h4b⟩ ?_
 rotate_left 1
 ·intro w hSw; (try dsimp only at hSw); go_simp; (first | done | with_reducible rfl)
 try simp only [Act.put, qI, qX, qY]
 refine anyT_take (i := 2) (v := ?_) (by simp only [qA, qS, qZ]; rfl) (by kernel_rfl) (by kernel_rfl) (by kernel_rfl) (by kernel_rfl) (fun _ _ _ h => h) (Or.inl ⟨by rfl, ?_⟩) ⟨HAB.out _ h4B, HBB.out _ h4b⟩ ?_
 rotate_left 1
 ·intro w hSw; (try dsimp only at hSw); go_simp; (first | done | with_reducible rfl)
 try simp only [Act.put, qI, qX, qY]
 refine anyT_take (i := 3) (v := ?_) (by simp only [qA, qS, qZ]; rfl) (by kernel_rfl) (by kernel_rfl) (by kernel_rfl) (by kernel_rfl) (fun _ _ _ h => h) (Or.inl ⟨by rfl, ?_⟩) ⟨HAB.out _ h4B, HBB.out _ h4b⟩ ?_
 rotate_left 1
 ·intro w hSw; (try dsimp only at hSw); go_simp; (first | done | with_reducible rfl)
 try simp only [Act.put, qI, qX, qY]
 refine anyT_take (i := 4) (v := ?_) (by simp only [qA, qS, qZ]; rfl) (by kernel_rfl) (by kernel_rfl) (by kernel_rfl) (by kernel_rfl) (fun _ _ _ h => h) (Or.inl ⟨by rfl, ?_⟩) ⟨HAB.out _ h4B, HBB.out _ h4b⟩ ?_
 rotate_left 1
 ·intro w hSw; (try dsimp only at hSw); go_simp; (first | done | with_reducible rfl)
 try simp only [Act.put, qI, qX, qY]
 refine anyT_take (i := 5) (v := ?_) (by simp only [qA, qS, qZ]; rfl) (by kernel_rfl) (by kernel_rfl) (by kernel_rfl) (by kernel_rfl) (fun _ _ _ h => h) (Or.inl ⟨by rfl, ?_⟩) ⟨HAB.out _ h4B, HBB.out _ h4b⟩ ?_
 rotate_left 1
 ·intro w hSw; (try dsimp only at hSw); go_simp; (first | done | with_reducible rfl)
 try simp only [Act.put, qI, qX, qY]
 refine anyT_take (i := 6) (v := ?_) (by simp only [qA, qS, qZ]; rfl) (by kernel_rfl) (by kernel_rfl) (by kernel_rfl) (by kernel_rfl) (fun _ _ _ h => h) (Or.inl ⟨by rfl, ?_⟩) ⟨HAB.out _ h4B, HBB.out _ h4b⟩ ?_
 rotate_left 1
 ·intro w hSw; (try dsimp only at hSw); go_simp; (first | done | with_reducible rfl)
 try simp only [Act.put, qI, qX, qY]
 refine anyT_take (i := 7) (v := ?_) (by simp only [qA, qS, qZ]; rfl) (by kernel_rfl) (by kernel_rfl) (by kernel_rfl) (by kernel_rfl) (fun _ _ _ h => h) (Or.inl ⟨by rfl, ?_⟩) ⟨HAB.out _ h4B, HBB.out _ h4b⟩ ?_
 rotate_left 1
 ·intro w hSw; (try dsimp only at hSw); go_simp; (first | done | with_reducible rfl)
 try simp only [Act.put, qI, qX, qY]
 refine anyT_take (i := 8) (v := ?_) (by simp only [qA, qS, qZ]; rfl) (by kernel_rfl) (by kernel_rfl) (by kernel_rfl) (by kernel_rfl) (fun _ _ _ h => h) (Or.inl ⟨by rfl, ?_⟩) ⟨HAB.out _ h4B, HBB.out _ h4b⟩ ?_
 rotate_left 1
 ·intro w hSw; (try dsimp only at hSw); go_simp; (first | done | with_reducible rfl)
 try simp only [Act.put, qI, qX, qY]
 refine anyT_take (i := 9) (v := ?_) (by simp only [qA, qS, qZ]; rfl) (by kernel_rfl) (by kernel_rfl) (by kernel_rfl) (by kernel_rfl) (fun _ _ _ h => h) (Or.inl ⟨by rfl, ?_⟩) ⟨HAB.out _ h4B, HBB.out _ h4b⟩ ?_
 rotate_left 1
 ·intro w hSw; (try dsimp only at hSw); go_simp; (first | done | with_reducible rfl)
 try simp only [Act.put, qI, qX, qY]
 refine anyT_take (i := 10) (v := ?_) (by simp only [qA, qS, qZ]; rfl) (by kernel_rfl) (by kernel_rfl) (by kernel_rfl) (by kernel_rfl) (fun _ _ _ h => h) (Or.inl ⟨by rfl, ?_⟩) ⟨HAB.out _ h4B, HBB.out _ h4b⟩ ?_
 rotate_left 1
 ·intro w hSw; (try dsimp only at hSw); go_simp; (first | done | with_reducible rfl)
 try simp only [Act.put, qI, qX, qY]
 refine anyT_take (i := 11) (v := ?_) (by simp only [qA, qS, qZ]; rfl) (by kernel_rfl) (by kernel_rfl) (by kernel_rfl) (by kernel_rfl) (fun _ _ _ h => h) (Or.inl ⟨by rfl, ?_⟩) ⟨HAB.out _ h4B, HBB.out _ h4b⟩ ?_
 rotate_left 1
 ·intro w hSw; (try dsimp only at hSw); go_simp; (first | done | with_reducible rfl)
 try simp only [Act.put, qI, qX, qY]
 refine anyT_take (i := 12) (v := ?_) (by simp only [qA, qS, qZ]; rfl) (by kernel_rfl) (by kernel_rfl) (by kernel_rfl) (by kernel_rfl) (fun _ _ _ h => h) (Or.inl ⟨by rfl, ?_⟩) ⟨HAB.out _ h4B, HBB.out _ h4b⟩ ?_
 rotate_left 1
 ·intro w hSw; (try dsimp only at hSw); go_simp; (first | done | with_reducible rfl)
 try simp only [Act.put, qI, qX, qY]
 refine anyT_take (i := 13) (v := ?_) (by simp only [qA, qS, qZ]; rfl) (by kernel_rfl) (by kernel_rfl) (by kernel_rfl) (by kernel_rfl) (fun _ _ _ h => h) (Or.inl ⟨by rfl, ?_⟩) ⟨HAB.out _ h4B, HBB.out _ h4b⟩ ?_
 rotate_left 1
 ·intro w hSw; (try dsimp only at hSw); go_simp; (first | done | with_reducible rfl)
 try simp only [Act.put, qI, qX, qY]
 refine anyT_take (i := 14) (v := ?_) (by simp only [qA, qS, qZ]; rfl) (by kernel_rfl) (by kernel_rfl) (by kernel_rfl) (by kernel_rfl) (fun _ _ _ h => h) (Or.inl ⟨by rfl, ?_⟩) ⟨HAB.out _ h4B, HBB.out _ h4b⟩ ?_
 rotate_left 1
 ·intro w hSw; (try dsimp only at hSw); go_simp; (first | done | with_reducible rfl)
 try simp only [Act.put, qI, qX, qY]
 refine anyT_take (i := 15) (v := ?_) (by simp only [qA, qS, qZ]; rfl) (by kernel_rfl) (by kernel_rfl) (by kernel_rfl) (by kernel_rfl) (fun _ _ _ h => h) (Or.inl ⟨by rfl, ?_⟩) ⟨HAB.out _ h4B, HBB.out _ h4b⟩ ?_
 rotate_left 1
 ·intro w hSw; (try dsimp only at hSw); go_simp; (first | done | with_reducible rfl)
 try simp only [Act.put, qI, qX, qY]
 refine anyT_take (i := 16) (v := ?_) (by simp only [qA, qS, qZ]; rfl) (by kernel_rfl) (by kernel_rfl) (by kernel_rfl) (by kernel_rfl) (fun _ _ _ h => h) (Or.inl ⟨by rfl, ?_⟩) ⟨HAB.out _ h4B, HBB.out _ h4b⟩ ?_
 rotate_left 1
 ·intro w hSw; (try dsimp only at hSw); go_simp; (first | done | with_reducible rfl)
 try simp only [Act.put, qI, qX, qY]
 refine anyT_ready (rs := [17]) (by kernel_rfl) (by simp) ?_
 refine AllReadyT.cons (by simp only [qA, qS, qZ]; rfl) (fun K hK => ?_) AllReadyT.nil
 go_simp
 obtain ⟨X1, hX1⟩ : ∃ X, (V.alloc (.cells #[.int .i32 c, .int .i64 a.bits, .string ⟨a.href.toArray⟩] 66)).drew = X := ⟨_, rfl⟩
 have hsrc : Src Tryz.prog 3 35 (.slice (some ⟨V.heap.size, 0, none⟩) 1 1) 1 [.int .i32 c, .int .i64 a.bits, .string ⟨a.href.toArray⟩] X1 := by rw [← hX1]; exact src_one rowCell V.drew [.int .i32 c, .int .i64 a.bits, .string ⟨a.href.toArray⟩] rfl (by intro u hu; simp at hu; rcases hu with rfl | rfl | rfl <;> rfl) 1
 have hx41 : Below wc.heap.size wc X1 := hX1 ▸ (hV.alloc hV.size _).drew
 rw [hX1]
 clear hX1
 have h5B := hx41.block _ hBz
 have h5b := hx41.block _ HBH.out.2.1
 refine hK.out _ _ (HAB.out _ h5B) (Or.inr (HBB.out _ h5b)) ?_
 clear hK K
 try simp only [Act.put, qI, qX, qY]
 refine anyT_ready (rs := [18]) (by kernel_rfl) (by simp) ?_
 refine AllReadyT.cons (by simp only [qA, qS, qZ]; rfl) (fun K hK => ?_) AllReadyT.nil
 have hL5 := HL.out.below hx41
 have hBX : B + 1 ≤ X1.heap.size := Nat.le_trans hBz hx41.size
 refine step_append_R (by rfl) _ _ 35 35 (by rfl) rowCell eltCell (B + 1) (.slice ca z.1.cells.length cc) _ (xs := z.1.cells) (ys := [⟨c, a.bits, a.href⟩]) (news := [.int .i32 c, .int .i64 a.bits, .string ⟨a.href.toArray⟩]) (by rfl) (by rfl) (HCR.out.below (rdOf_stable _) hx41) hBX hsrc (NewsR.one rfl rfl) (by simp; omega) ?_
 intro v6 y hR6 hBl6 hG6 hO6
 obtain ⟨va6, vc6, hv6⟩ := hR6.slice
 have hlen6 : (z.1.cells ++ [(⟨c, a.bits, a.href⟩ : Cel)]).length = z.1.cells.length + 1 := by simp
 rw [hlen6] at hv6
 clear hlen6
 subst hv6
 have hbB : b ≠ B := by have := HBH.out.2.2; omega
 have h6B : y.heap[B]? = wc.heap[B]? := (hBl6.block _ (Nat.lt_succ_self _)).trans h5B
 have h6b : y.heap[b]? = wc.heap[b]? := (hG6.block _ (Nat.lt_of_lt_of_le HBH.out.2.1 hx41.size) (fun e => by
  obtain ⟨_, cs2, h2⟩ := HZ.out.2 b (HZ.out.1.symm.trans e.symm)
  rw [HBH.out.1] at h2
  cases h2)).trans h5b
 refine hK.out _ _ (HAB.out _ h6B) (Or.inr (HBB.out _ h6b)) ?_
 clear hK K
 try simp only [Act.put, qI, qX, qY]
 refine anyT_takeA (i := 19) (v := ?_) (by simp only [qA, qS, qZ]; rfl) (by kernel_rfl) (by kernel_rfl) (by kernel_rfl) (by kernel_rfl) (fun _ _ _ h => h) (Or.inl ⟨by rfl, ?_⟩) (HAB.out _ h6B) (Or.inr (HBB.out _ h6b)) ?_
 rotate_left 1
 ·intro w hSw; (try dsimp only at hSw); go_simp; (first | done | with_reducible rfl)
 try simp only [Act.put, qI, qX, qY]
 refine anyT_takeA (i := 20) (v := ?_) (by simp only [qA, qS, qZ]; rfl) (by kernel_rfl) (by kernel_rfl) (by kernel_rfl) (by kernel_rfl) (fun _ _ _ h => h) (Or.inl ⟨by rfl, ?_⟩) (HAB.out _ h6B) (Or.inr (HBB.out _ h6b)) ?_
 rotate_left 1
 ·intro w hSw; (try dsimp only at hSw); go_simp; (first | done | with_reducible rfl)
 try simp only [Act.put, qI, qX, qY]
 have p6 := HBB.out _ h6b
 have f6 := HFB.out _ h6b
 refine anyT_ready (rs := [21]) (by kernel_rfl) (by simp) ?_
 refine AllReadyT.cons (by simp only [qA, qS, qZ]; rfl) (fun K hK => ?_) AllReadyT.nil
 go_simp
 have h7B : (y.setCell ⟨b, q + xs0.length * 4 + 3, none⟩ (.slice va6 (z.1.cells.length + 1) vc6)).heap[B]? = wc.heap[B]? := (Below.heap_setCell y ⟨b, q + xs0.length * 4 + 3, none⟩ (.slice va6 (z.1.cells.length + 1) vc6) _ (Ne.symm hbB)).trans h6B
 refine hK.out _ _ (HAB.out _ h7B) (Or.inl (by rfl)) ?_
 clear hK K
 refine anyT_done (by kernel_rfl) ?_ _
 refine NoPanic.normal ?_
 have hL7 := hL5.put HZ.out.1 hG6 hR6 (by simp) hO6
 have hk6 : KeepT B wc y := (KeepT.of hx41).trans (KeepT.cells HZ.out.1 (fun d hd => by
  obtain ⟨h1, cs2, h2⟩ := HZ.out.2 d hd
  exact ⟨h1, cs2, (hx41.block _ (lt_of_heap h2)).trans h2⟩) hG6)
 have hk7 := hk6.trans (KeepT.line y (h6b.trans HBH.out.1) (by have := HBH.out.2.2; omega) (q + xs0.length * 4 + 3) (.slice va6 (z.1.cells.length + 1) vc6))
 have hI7 := hk7.row (by decide) (by decide) HI.out
 obtain ⟨W7, hW7⟩ : ∃ X, y.setCell ⟨b, q + xs0.length * 4 + 3, none⟩ (.slice va6 (z.1.cells.length + 1) vc6) = X := ⟨_, rfl⟩
 rw [hW7] at h7B hL7 hk7 hI7 ⊢
 have hB7 := h7B.trans hcellB
 have HB7 := Lib.hid hB7
 have HL7 := Lib.hid hL7
 have HK7 := Lib.hid (HK.out.trans hk7)
 have HI7 := Lib.hid hI7
 obtain ⟨p7, f7⟩ := blk hB7
 have HE : Hid (addV a c s1 = ⟨xs0.map (·.1) ++ [{ z.1 with cells := z.1.cells ++ [⟨c, a.bits, a.href⟩] }], s1.cells + 1, s1.opn, s1.spot, s1.pos⟩) := Lib.hid (by unfold addV; rw [HXZ.out, lastD_snoc])
 clear hW7 h7B hL7 hk7 hI7 hB7 hk6 h6B h6b p6 f6 hR6 hBl6 hG6 hO6 hL5 hBX hsrc h5B h5b hx41 h4B h4b hV hcellB d3 hbB
 go_wp2_with fail
 go_returns
 have hS := SetB.one B W7 7 (.int .i64 ((s1.cells : Int) + 1))
 rw [HP.out, HE.out]
 exact ⟨⟨_, rfl⟩, VwR.turn HL7.out hS.blk (Nat.le_of_eq hS.size.symm) (setCell_heap HB7.out _) HI7.out (by simp), HK7.out.trans hS.keep⟩
set_option maxRecDepth 100000 in
set_option maxHeartbeats 4000000 in
theorem box_any (B : Nat) (a : Aro) (lv : Value) (s : VSt) (t : Int) (w : World) (h : VwR B w a lv s) (ha : ArW a) (ht : -100 ≤ t ∧ t ≤ 100) :
  Calls Tryz.prog 103 #[.pointer (some ⟨B, 0, none⟩), .int .i64 t] w fun e w' => (∃ u, e = .returned u) ∧ (∃ lv', VwR B w' (boxA t a) lv' s) ∧ KeepT B w w' := by
 have h0 := h
 obtain ⟨lns, xs, hB, hI, hL, hx⟩ := h
 have hBz := lt_of_heap hB
 obtain ⟨hq0, hq6, hll⟩ := ha
 have HB := Lib.hid hB
 have HL := Lib.hid hL
 have HX := Lib.hid hx
 have H0 := Lib.hid h0
 have HI0 := Lib.hid hI
 obtain ⟨la, lc, rfl⟩ := hI.slice
 unfold walkC at hB
 obtain ⟨p1, f1⟩ := blk hB
 by_cases h6 : t = 6
 ·subst h6
  have e : boxA 6 a = { a with quote := min (a.quote + 1) 6 } := rfl
  clear hI hL hx hB h0 ht hll
  go_enter Tryz.func103, Tryz.ntmps103
  go_wp2_with fail
  go_returns
  have hS := SetB.one B w 0 (.int .i64 (min (a.quote + 1) 6))
  rw [e]
  exact ⟨⟨_, rfl⟩, ⟨_, VwR.turn HL.out hS.blk (Nat.le_of_eq hS.size.symm) (setCell_heap HB.out _) HI0.out HX.out⟩, hS.keep⟩
 have b6 : (t == 6) = false := by simpa using h6
 by_cases h1 : t ≠ 1 ∧ a.lists.length < 6
 ·obtain ⟨h1, hl6⟩ := h1
  have b1 : (t != 1) = true := by simpa using h1
  have e : boxA t a = { a with lists := a.lists ++ [t - 7] } := by unfold boxA; rw [if_neg h6, if_pos ⟨h1, hl6⟩]
  have HCl : Hid (Calls Tryz.prog 62 #[.slice la a.lists.length lc] w fun e w' => ∃ va vc, e = .returned (.slice va a.lists.length vc) ∧ IntsR true w' (fun b => w.heap.size ≤ b) (.slice va a.lists.length vc) a.lists ∧ Below w.heap.size w w') := Lib.hid ((cloneInt_any _ a.lists true w w _ hI (Below.refl _ _) (by omega)).mono fun _ _ ⟨v', h1, h2, h3⟩ => by
   obtain ⟨va, vc, rfl⟩ := h2.slice
   exact ⟨va, vc, h1, h2, h3⟩)
  clear hI hL hx h0 h6 h1 hll
  go_enter Tryz.func103, Tryz.ntmps103
  go_wp2_with (first
   | (go_at_call 62; refine HCl.out.mono ?_; rintro e w2 ⟨va, vc, rfl, hv2, hb2⟩)
   | (at_builtin; go_must (refine wpList_append_R _ rfl _ _ 34 34 rfl rowInt eltInt w.heap.size (.slice va a.lists.length vc) _ (xs := a.lists) (ys := [t - 7]) (news := [.int .i64 (t - 7)]) rfl rfl (hv2.below (rdOf_stable _) ((Below.refl _ _).alloc (Nat.le_refl _) _)) (by have := hb2.size; simp; omega) (src_one rowInt w2 [.int .i64 (t - 7)] rfl (by intro u hu; simp at hu; subst hu; rfl) 1) (NewsR.one rfl rfl) (by simp; omega) ?_); intro v' w3 hR3 hB3 _ _; obtain ⟨va3, vc3, rfl⟩ := hR3.slice; have hx3 : Below w.heap.size w w3 := (hb2.alloc hb2.size _).trans hB3; have hB4 := heap_below hx3 HB.out; unfold walkC at hB4; obtain ⟨q3, g3⟩ := blk hB4))
  go_returns
  have hk3 := KeepT.of (B := B) hx3
  have hlen : (a.lists ++ [t - 7]).length = a.lists.length + 1 := by simp
  rw [hlen] at hR3
  have hS := SetB.one B w3 1 (.slice va3 (a.lists.length + 1) vc3)
  have hL3 := HL.out.below hx3
  rw [e]
  refine ⟨⟨_, rfl⟩, ⟨_, VwR.turn hL3 hS.blk (Nat.le_of_eq hS.size.symm) (setCell_heap hB4 _) (hR3.stable (rdOf_stable _) (Keeps.refl _ _) (fun b hb _ => Nat.lt_of_lt_of_le hBz hb)) HX.out⟩, hk3.trans hS.keep⟩
 ·have e : boxA t a = a := by unfold boxA; rw [if_neg h6, if_neg h1]
  have hcs : (t == 1) = true ∨ ((t != 1) = true ∧ ¬ a.lists.length < 6) := by
   by_cases h2 : t = 1
   ·exact .inl (by simpa using h2)
   ·exact .inr ⟨by simpa using h2, fun h3 => h1 ⟨h2, h3⟩⟩
  clear hI hL hx hB h0 h6 h1 hll
  rcases hcs with h2 | ⟨h2, h3⟩
  ·have h2' : t = 1 := by simpa using h2
   subst h2'
   clear h2
   go_enter Tryz.func103, Tryz.ntmps103
   go_wp2_with fail
   go_returns
   rw [e]
   exact ⟨⟨_, rfl⟩, ⟨_, H0.out⟩, KeepT.refl _ _⟩
  ·go_enter Tryz.func103, Tryz.ntmps103
   go_wp2_with fail
   go_returns
   rw [e]
   exact ⟨⟨_, rfl⟩, ⟨_, H0.out⟩, KeepT.refl _ _⟩
end Go.Proofs.YtjpgffihafknlaaGreatDoor
namespace Go.Proofs.YtjpgffihafknlaaGreatDoor
open Go.RowKit
open Go.Proofs.Qw
theorem src_at {P : Program} {st t : TypeId} {k : Nat} (hT : RowT P st t k) (w : World) (l : List Value) (hl : l.length = k) (h1 : ∀ u ∈ l, u.oneCell' = true) (c : Nat) {B : Nat} (hB : B = w.heap.size) : Src P k st (.slice (some ⟨B, 0, none⟩) 1 c) 1 l (w.alloc (.cells l.toArray t)) := hB ▸ src_one hT w l hl h1 c
end Go.Proofs.YtjpgffihafknlaaGreatDoor
namespace Go.Proofs.Qw
open Go.RowKit Go.Proofs.YtjpgffihafknlaaGreatDoor
def plainF (c : Int) : Int × Bool := if c = 9 ∨ c = 12 ∨ c = 13 then (32, true) else if c = 10 then (c, true) else (c, !(classF c == 1))
theorem plain_clean (c : Int) : (if (plainF c).2 = true then some (plainF c).1 else none) = cleanR c := by
 unfold plainF cleanR
 split
 ·rfl
 ·split
  ·rename_i h; subst h; rfl
  ·by_cases h : classF c = 1
   ·rw [if_pos h]; simp [h]
   ·rw [if_neg h]; simp [h]
end Go.Proofs.Qw
namespace Go.Proofs.YtjpgffihafknlaaGreatDoor
open Go.RowKit
open Go.Proofs.Qw
attribute [local go_sem] Oper.semAt_some
theorem rowRune : RowT Tryz.prog 90 21 1 := RowT.mk' (y := 4) Tryz.underlying90 (by kernel_rfl) (by decide) (z := .int .i32 0) (by decide)
theorem eltRune : Elt 21 1 (rdOf encRune) := elt_of _ (by decide) (fun _ => rfl) (fun x u hu => by simp [encRune] at hu; subst hu; rfl)
theorem oneV_rune (r : Int) : ∀ u ∈ [Value.int .i32 r], u.oneCell' = true := fun u hu => by simp at hu; subst hu; rfl
theorem plain_any (c : Int) (w : World) :
  Calls Tryz.prog 84 #[.int .i32 c] w fun e w' => e = .returned (.tuple #[.int .i32 (plainF c).1, .bool (plainF c).2]) ∧ w' = w := by
 have HC := Lib.hid (class_any c w)
 by_cases h9 : c = 9
 ·subst h9
  clear HC
  go_enter Tryz.func84, Tryz.ntmps84
  go_wp2_with fail
  go_ret2
  rw [show plainF 9 = (32, true) from if_pos (by decide)]
  exact ⟨rfl, rfl⟩
 by_cases h12 : c = 12
 ·subst h12
  clear HC
  go_enter Tryz.func84, Tryz.ntmps84
  go_wp2_with fail
  go_ret2
  rw [show plainF 12 = (32, true) from if_pos (by decide)]
  exact ⟨rfl, rfl⟩
 by_cases h13 : c = 13
 ·subst h13
  clear HC
  go_enter Tryz.func84, Tryz.ntmps84
  go_wp2_with fail
  go_ret2
  rw [show plainF 13 = (32, true) from if_pos (by decide)]
  exact ⟨rfl, rfl⟩
 by_cases h10 : c = 10
 ·subst h10
  clear HC
  go_enter Tryz.func84, Tryz.ntmps84
  go_wp2_with fail
  go_ret2
  rw [show plainF 10 = (10, true) from (if_neg (by decide)).trans (if_pos rfl)]
  exact ⟨rfl, rfl⟩
 have HR : Hid (plainF c = (c, !(classF c == 1))) := Lib.hid (by unfold plainF; rw [if_neg (by omega), if_neg h10])
 have b9 : (c == 9) = false := by simpa using h9
 have b12 : (c == 12) = false := by simpa using h12
 have b13 : (c == 13) = false := by simpa using h13
 have b10 : (c == 10) = false := by simpa using h10
 clear h9 h12 h13 h10
 generalize classF c = k at *
 go_enter Tryz.func84, Tryz.ntmps84
 go_wp2_with (go_at_call 114; refine HC.out.mono ?_; rintro e w' ⟨rfl, rfl⟩)
 go_ret2
 rw [HR.out]
 exact ⟨rfl, rfl⟩
theorem runesGo_width (s : ByteArray) : ∀ (f pos : Nat), (runesGo s f pos).length ≤ f
 | 0, _ => Nat.le_refl _
 | f + 1, pos => by
  unfold runesGo
  split
  ·have := runesGo_width s f (pos + (Utf8.decode s pos).2)
   rw [List.length_cons]; omega
  ·simp
theorem runesB_length (s : ByteArray) : (runesB s).length ≤ s.size := runesGo_width s _ _
set_option maxRecDepth 100000 in
set_option maxHeartbeats 4000000 in
theorem each_any (s : ByteArray) (g : Nat) (F : Int → Int × Bool) (eg : ∀ args w, (callFunc g args).run Tryz.prog w = .ok (.enter g args) w)
  (hF : ∀ c w, Calls Tryz.prog g #[.int .i32 c] w fun e w' => e = .returned (.tuple #[.int .i32 (F c).1, .bool (F c).2]) ∧ w' = w) (w : World) (hs : s.size ≤ 10000000) :
  Calls Tryz.prog 82 #[.string s, .func (.func g) #[] #[]] w fun e w' => ∃ v, e = .returned v ∧ RunesR true w' (fun b => w.heap.size ≤ b) v ((runesB s).filterMap fun c => if (F c).2 = true then some (F c).1 else none) ∧ Below w.heap.size w w' := by
 obtain ⟨G, hG⟩ : ∃ G : Int → Option Int, (fun c => if (F c).2 = true then some (F c).1 else none) = G := ⟨_, rfl⟩
 have HG : Hid (∀ c, G c = if (F c).2 = true then some (F c).1 else none) := Lib.hid fun c => by rw [← hG]
 rw [hG]
 have HF := Lib.hid hF
 clear hG hF
 go_enter Tryz.func82, Tryz.ntmps82
 go_wp2_with fail
 go_loopw [5] (fun l wr => ∃ (pos fuel : Nat) (acc : List Int), Hid (RunesR true wr (fun b => w.heap.size + 1 ≤ b) l acc) ∧ wr.heap[w.heap.size]? = some (.stringIter s pos) ∧ Hid (Below w.heap.size w wr) ∧ Hid (acc ++ (runesGo s fuel pos).filterMap G = (runesB s).filterMap G) ∧ s.size ≤ pos + fuel) (fun _ wr => s.size - wr.iterPos w.heap.size)
 case atStart => exact ⟨0, s.size, [], Lib.hid (SliceR.nil _ _ _ _ _ _), World.iter_heap w s 0, Lib.hid ((Below.refl _ _).alloc (Nat.le_refl _) _), Lib.hid rfl, by omega⟩
 case round =>
  obtain ⟨pos, fuel, acc, HO, hit, HB, HA, hfu⟩ := hrel
  have hsz : w.heap.size < wr.heap.size := (Array.getElem?_eq_some_iff.1 hit).1
  by_cases hp : pos < s.size
  ·have hwd := Lib.decode_width_pos s pos hp
   have hd1 := decode_le s pos
   have hnx : ∀ ty, (Instr.next (.pointer (some ⟨w.heap.size, 0, none⟩)) true ty).run Tryz.prog wr = .ok (.tuple #[.bool true, .int .i64 pos, .int .i32 (Utf8.decode s pos).1]) (wr.iterAt w.heap.size s (pos + (Utf8.decode s pos).2)) := fun ty => Lib.run_next_any_at wr w.heap.size s pos ty hit hp
   have hit2 := Lib.iterAt_heap wr w.heap.size s pos (pos + (Utf8.decode s pos).2) hit
   have hbw2 := Lib.below_iterAt HB.out (k := w.heap.size) (Nat.le_refl _) s (pos + (Utf8.decode s pos).2)
   have hsz2 : (wr.iterAt w.heap.size s (pos + (Utf8.decode s pos).2)).heap.size = wr.heap.size := Lib.iterAt_size _ _ _ _
   have HO2 := Lib.hid (SliceR.stable (w' := wr.iterAt w.heap.size s (pos + (Utf8.decode s pos).2)) (S' := fun b => w.heap.size + 1 ≤ b) (rdOf_stable encRune) HO.out (Keeps.only (b := w.heap.size) hsz2 (fun d hd => Lib.iterAt_other _ _ _ _ _ hd) (by simp)) (fun _ h _ => h))
   obtain ⟨f, rfl⟩ : ∃ f, fuel = f + 1 := ⟨fuel - 1, by omega⟩
   have HA2 : Hid (acc ++ (((Utf8.decode s pos).1 : Int) :: runesGo s f (pos + (Utf8.decode s pos).2)).filterMap G = (runesB s).filterMap G) := Lib.hid (by have := HA.out; unfold runesGo at this; rw [if_pos hp] at this; exact this)
   obtain ⟨wi, hwi⟩ : ∃ wi, wr.iterAt w.heap.size s (pos + (Utf8.decode s pos).2) = wi := ⟨_, rfl⟩
   rw [hwi] at hnx hit2 hbw2 hsz2 HO2
   obtain ⟨c, hcc⟩ : ∃ c : Int, ((Utf8.decode s pos).1 : Int) = c := ⟨_, rfl⟩
   rw [hcc] at hnx HA2
   obtain ⟨pos', hpp⟩ : ∃ pos', pos + (Utf8.decode s pos).2 = pos' := ⟨_, rfl⟩
   have hpl : pos + 1 ≤ pos' := by omega
   rw [hpp] at hit2 HA2
   obtain ⟨r, t, hrt⟩ : ∃ r t, F c = (r, t) := ⟨_, _, rfl⟩
   have HFc : Hid (∀ W, Calls Tryz.prog g #[.int .i32 c] W fun e w' => e = .returned (.tuple #[.int .i32 r, .bool t]) ∧ w' = W) := Lib.hid fun W => by
    have := HF.out c W
    rw [hrt] at this
    exact this
   have hGc := HG.out c
   rw [hrt] at hGc
   have hm1 : (wi.iterPos w.heap.size) = pos' := by simp only [World.iterPos, hit2]
   have hm0 : (wr.iterPos w.heap.size) = pos := by simp only [World.iterPos, hit]
   have HB2 := Lib.hid hbw2
   have HIT := Lib.hid hit2
   have hlw : w.heap.size < wi.heap.size := (Array.getElem?_eq_some_iff.1 hit2).1
   have HM := Lib.hid (And.intro hm0 hm1)
   clear hit hit2 hbw2 HB HA HO HF HG hcc hpp hwi hrt hd1 hwd hm0 hm1 hsz2
   cases t
   ·have HA3 : Hid (acc ++ (runesGo s f pos').filterMap G = (runesB s).filterMap G) := Lib.hid (by have := HA2.out; rw [List.filterMap_cons, hGc] at this; exact this)
    clear hGc
    go_wp2_with (go_at_fn g; refine (HFc.out _).mono ?_; rintro e w1 ⟨rfl, rfl⟩)
    go_roundw
    case rel => exact ⟨pos', f, acc, HO2, HIT.out, HB2, HA3, by omega⟩
    case measure => rw [HM.out.1, HM.out.2]; omega
   ·have HA3 : Hid ((acc ++ [r]) ++ (runesGo s f pos').filterMap G = (runesB s).filterMap G) := Lib.hid (by have := HA2.out; rw [List.filterMap_cons, hGc] at this; simpa using this)
    have HL : Hid (acc.length + 1 ≤ 10000000) := Lib.hid (by
     have h1 := congrArg List.length HA3.out
     have h2 := List.length_filterMap_le G (runesB s)
     have h3 := runesB_length s
     simp only [List.length_append, List.length_singleton] at h1
     omega)
    clear hGc
    go_wp2_with (first
     | (go_at_fn g; refine (HFc.out _).mono ?_; rintro e w1 ⟨rfl, rfl⟩)
     | (at_builtin; refine wpList_append_R _ rfl _ _ 90 90 rfl rowRune eltRune (w.heap.size + 1) _ _ (xs := acc) (ys := [r]) (news := [.int .i32 r]) rfl rfl (SliceR.below (rdOf_stable _) HO2.out ((Below.refl _ _).alloc (Nat.le_refl _) _)) (by simp; omega) (src_at rowRune _ _ rfl (oneV_rune r) 1 rfl) (NewsR.one rfl rfl) (by have := HL.out; simp only [List.length_singleton]; omega) ?_; intro v' w2 hR hB' _ _; have HR := Lib.hid hR; have HB' := Lib.hid hB'; clear hR hB'))
    have hi2 := (HB'.out.block w.heap.size (Nat.lt_succ_self _)).trans (heap_old _ _ HIT.out)
    go_roundw
    case rel => exact ⟨pos', f, acc ++ [r], HR, hi2, Lib.hid ((HB2.out.alloc HB2.out.size _).trans (HB'.out.mono (Nat.le_succ _))), HA3, by omega⟩
    case measure => rw [HM.out.1]; simp only [World.iterPos, hi2]; omega
  ·have hnx : ∀ ty, (Instr.next (.pointer (some ⟨w.heap.size, 0, none⟩)) true ty).run Tryz.prog wr = .ok (.tuple #[.bool false]) wr := fun ty => Lib.run_next_end_at wr w.heap.size s pos ty hit hp
   have HA2 : Hid (acc = (runesB s).filterMap G) := Lib.hid (by
    have := HA.out
    cases fuel with
    | zero => simpa [runesGo] using this
    | succ f => unfold runesGo at this; rw [if_neg hp] at this; simpa using this)
   clear HF HG HA hit
   go_wp2_with fail
   go_ret
   refine ⟨_, rfl, ?_, HB.out⟩
   rw [← HA2.out]
   exact SliceR.stable (rdOf_stable _) HO.out (Keeps.refl _ _) (fun b h _ => Nat.le_of_succ_le h)
end Go.Proofs.YtjpgffihafknlaaGreatDoor
namespace Go.Proofs.Qw
open Go.RowKit
theorem runesGo_count (s : ByteArray) : ∀ (f pos : Nat), (runesGo s f pos).length = Lib.runeCountFrom s f pos
 | 0, _ => rfl
 | f + 1, pos => by
  unfold runesGo Lib.runeCountFrom
  split
  ·rw [List.length_cons, runesGo_count s f, Nat.add_comm]
  ·rfl
theorem runesB_count (s : ByteArray) : (runesB s).length = Lib.runeCount s := runesGo_count s _ _
end Go.Proofs.Qw
namespace Go.Proofs.YtjpgffihafknlaaGreatDoor
open Go.RowKit
open Go.Proofs.Qw
attribute [local go_sem] Oper.semAt_some
theorem charsCount_any (s : ByteArray) (w : World) (hs : s.size ≤ 1000000000) :
  Calls Tryz.prog 53 #[.string s] w fun e w' => e = .returned (.int .i64 (runesB s).length) ∧ Below w.heap.size w w' := by
 have HC := Lib.hid (Tryz.utf8_RuneCountInString s w (by omega))
 rw [runesB_count]
 go_enter Tryz.func53, Tryz.ntmps53
 go_wp2_with (go_at_call 85; refine HC.out.mono ?_; rintro e w1 ⟨rfl, pos, rfl⟩)
 go_ret
 refine ⟨by first | rfl | simp, (Below.refl _ _).alloc (Nat.le_refl _) _⟩
end Go.Proofs.YtjpgffihafknlaaGreatDoor
namespace Go.Proofs.Qw
open Go.RowKit
theorem SliceR.pre {α : Type} {t : TypeId} {k : Nat} {R : Rd α} {w : World} {S : Nat → Prop} {a : Option Addr} {n c m : Nat} {xs : List α} (h : SliceR t k R false w S (.slice a n c) xs) (hm : m ≤ xs.length) : SliceR t k R false w S (.slice a m c) (xs.take m) := by
 obtain ⟨a', c', e, h2, h3, hx⟩ := h
 cases e
 have hl : (xs.take m).length = m := by rw [List.length_take]; omega
 refine ⟨a, c, by rw [hl], by rw [hl]; omega, h3, ?_⟩
 rcases hx with ⟨h0, _⟩ | ⟨b, o, rfl, hb, hz, _, he⟩
 ·exact .inl ⟨by rw [h0]; simp, fun h => by cases h⟩
 ·refine .inr ⟨b, o, rfl, hb, hz, (fun h => by cases h), fun i x hx => he i x ?_⟩
  rw [List.getElem?_take] at hx
  split at hx
  ·exact hx
  ·cases hx
end Go.Proofs.Qw
namespace Go.Proofs.YtjpgffihafknlaaGreatDoor
open Go.RowKit
open Go.Proofs.Qw
attribute [local go_sem ↓] Go.wp_at_zero Go.wp_at_succ
def flatP (c : Int) : Int × Bool := plainF (if c = 10 then 32 else c)
theorem flat_flat (c : Int) : (if (flatP c).2 = true then some (flatP c).1 else none) = flatC c := by
 unfold flatP
 rw [plain_clean]
 unfold cleanR flatC
 by_cases h : c = 10
 ·subst h
  rw [if_pos rfl]
  have : classF 32 ≠ 1 := by rw [classF_32]; decide
  simp [this]
 ·simp only [h, if_false, false_or]
theorem flat1_any (c : Int) (w : World) :
  Calls Tryz.prog 83 #[.int .i32 c] w fun e w' => e = .returned (.tuple #[.int .i32 (flatP c).1, .bool (flatP c).2]) ∧ w' = w := by
 by_cases h : c = 10
 ·subst h
  have HP := Lib.hid (plain_any 32 w)
  rw [show flatP 10 = plainF 32 from rfl]
  generalize plainF 32 = q at *
  obtain ⟨q1, q2⟩ := q
  go_enter Tryz.func83, Tryz.ntmps83
  go_wp2_with (go_at_call 84; refine HP.out.mono ?_; rintro e w' ⟨rfl, rfl⟩)
  go_ret2
  exact ⟨rfl, rfl⟩
 ·have HP := Lib.hid (plain_any c w)
  rw [show flatP c = plainF c by unfold flatP; rw [if_neg h]]
  have b10 : (c == 10) = false := by simpa using h
  clear h
  generalize plainF c = q at *
  obtain ⟨q1, q2⟩ := q
  go_enter Tryz.func83, Tryz.ntmps83
  go_wp2_with (go_at_call 84; refine HP.out.mono ?_; rintro e w' ⟨rfl, rfl⟩)
  go_ret2
  exact ⟨rfl, rfl⟩
theorem flat_any (s : ByteArray) (w : World) (hs : s.size ≤ 10000000) :
  Calls Tryz.prog 52 #[.string s] w fun e w' => ∃ v, e = .returned v ∧ RunesR true w' (fun b => w.heap.size ≤ b) v (flatR (runesB s)) ∧ Below w.heap.size w w' := by
 have HE := Lib.hid (each_any s 83 flatP (enters_of Tryz.func83 (by kernel_rfl) rfl) flat1_any w hs)
 have e : (fun c => if (flatP c).2 = true then some (flatP c).1 else none) = flatC := funext flat_flat
 rw [e] at HE
 clear e
 go_enter Tryz.func52, Tryz.ntmps52
 go_wp2_with (go_at_call 82; refine HE.out.mono ?_; rintro e w2 ⟨v, rfl, hv, hb⟩)
 go_ret
 exact ⟨_, rfl, hv, hb⟩
theorem enc_size (l : List Int) : (runesBytes l).size ≤ 4 * l.length := by
 have h := runesBytes_eq l
 have h2 : (runesBytes l).size = (l.flatMap Lib.encodeRune).length := by
  rw [← h]
  simp
 rw [h2]
 clear h h2
 induction l with
 | nil => simp
 | cons c l ih =>
  have : (Lib.encodeRune c).length ≤ 4 := by
   unfold Lib.encodeRune
   rw [List.length_map]
   exact (Lib.encodeRuneZ_length c).2
  rw [List.flatMap_cons, List.length_append, List.length_cons]
  omega
theorem back_runes {l : List Int} (h : ∀ c ∈ l, Lib.validRune c = true) : runesB (runesBytes l) = l := by
 have e : runesBytes l = ⟨(l.flatMap Lib.encodeRune).toArray⟩ := by
  have := runesBytes_eq l
  cases hb : runesBytes l with
  | mk d =>
   rw [hb] at this
   show (⟨d⟩ : ByteArray) = _
   congr 1
   rw [← this]
 rw [e]
 exact runesB_of l h
theorem runes_row (s : ByteArray) (w : World) (hs : s.size ≤ 10000000) : ∃ a c w1, (convert 9 90 (.string s)).run Tryz.prog w = .ok (.slice a (runesB s).length c) w1 ∧ RunesR false w1 (fun _ => True) (.slice a (runesB s).length c) (runesB s) ∧ Below w.heap.size w w1 := by
 have hz := size_runesFrom s s.size 0 #[]
 have hr := run_runes_of_string w 9 90 21 s Tryz.underlying9 Tryz.underlying90 Tryz.underlying21 (by simp at hz; omega)
 have hge := grownCap_ge w (Conv.runesFrom s s.size 0 #[]).size 0 21
 have hle := grownCap_le_maxLen w (Conv.runesFrom s s.size 0 #[]).size 0 21 (by unfold maxLen; simp at hz; omega)
 have he : Conv.runesFrom s s.size 0 #[] = ((runesB s).map (Value.int .i32)).toArray := by rw [runesFrom_eq]; simp [runesB]
 rw [he] at hr hge hle
 generalize hG : grownCap w (((runesB s).map (Value.int .i32)).toArray).size 0 21 = G at *
 simp only [List.size_toArray, List.length_map] at hr hge hle
 clear hz he hG
 refine ⟨_, _, _, hr, ⟨_, G, rfl, hge, hle, .inr ⟨w.heap.size, 0, rfl, trivial, by simp, (fun h => by cases h), fun i x hx => ⟨_, rfl, rfl, fun j u hu => ?_⟩⟩⟩, by (repeat' (first | (with_reducible exact Below.refl _ _) | (with_reducible assumption) | (with_reducible refine Below.alloc ?_ ?_ _) | (with_reducible refine Below.drew ?_) | (with_reducible refine drewN_below ?_) | (with_reducible refine Below.setCell ?_ ?_ _) | go_size))⟩
 have hi := (List.getElem?_eq_some_iff.1 hx).1
 have hj : j = 0 := by
  have := (List.getElem?_eq_some_iff.1 hu).1
  simp [encRune] at this
  omega
 subst hj
 cases hu
 show (w.drew.alloc _).cell? ⟨w.drew.heap.size, _, none⟩ = _
 rw [cell_of_heap (heap_new _ _ rfl)]
 rw [Array.getElem?_append_left (by simp; omega)]
 simp [hx]
set_option maxRecDepth 100000 in
set_option maxHeartbeats 2000000 in
theorem partChars_any (s : ByteArray) (k : Nat) (w : World) (hs : s.size ≤ 10000000) :
  Calls Tryz.prog 121 #[.string s, .int .i64 0, .int .i64 k] w fun e w' => ∃ t, e = .returned (.string t) ∧ runesB t = (runesB s).take k ∧ t.size ≤ 4 * s.size ∧ Below w.heap.size w w' := by
 have hln := runesB_length s
 have HV : Hid (∀ c ∈ runesB s, Lib.validRune c = true) := Lib.hid (runesGo_valid s _ _)
 obtain ⟨ra, rc, W1, hr, hR, hb⟩ := runes_row s w hs
 generalize runesB s = d at *
 obtain ⟨hdc, hcm⟩ := (SliceR.len hR).2
 unfold maxLen at hcm
 obtain ⟨ss, hss⟩ : ∃ n, s.size = n := ⟨_, rfl⟩
 rw [hss] at hs hln ⊢
 obtain ⟨m, hm⟩ : ∃ m, min k d.length = m := ⟨_, rfl⟩
 have e0 : min (0 : Int) (d.length : Int) = 0 := by omega
 have em : min (k : Int) (d.length : Int) = (m : Int) := by omega
 have hml : m ≤ d.length := by omega
 have HT : Hid (d.take k = d.take m) := Lib.hid (by rw [← hm]; simp [List.take_eq_take_iff])
 have HP := Lib.hid (string_runes (SliceR.pre hR hml))
 have HS := Lib.hid (enc_size (d.take m))
 have HL : Hid ((d.take m).length ≤ ss) := Lib.hid (by rw [List.length_take]; omega)
 have HB := Lib.hid hb
 have HBk := Lib.hid (back_runes (l := d.take m) fun c hc => HV.out c (List.mem_of_mem_take hc))
 clear hss hR hb
 by_cases h0 : m = 0
 ·have hd0 : decide ((m : Int) ≤ 0) = true := decide_eq_true (by omega)
  clear hm
  go_enter Tryz.func121, Tryz.ntmps121
  go_wp2_with fail
  go_ret
  exact ⟨⟨#[]⟩, rfl, by rw [HT.out, h0]; rfl, Nat.zero_le _, HB.out⟩
 ·have hd0 : decide ((m : Int) ≤ 0) = false := decide_eq_false (by omega)
  have hm0 : 0 < m := by omega
  have hcv := HP.out
  clear hm h0
  go_enter Tryz.func121, Tryz.ntmps121
  go_wp2_with fail
  go_ret
  exact ⟨_, rfl, by rw [HT.out]; exact HBk.out, by have := HS.out; have := HL.out; omega, HB.out⟩
theorem headT_any (t : Int) (w : World) : Calls Tryz.prog 101 #[.int .i64 t] w fun e w' => e = .returned (.int .i64 (headT t)) ∧ Below w.heap.size w w' := by
 unfold headT
 by_cases h : 3 ≤ t ∧ t ≤ 5
 ·rw [if_pos h]
  have : t = 3 ∨ t = 4 ∨ t = 5 := by omega
  rcases this with rfl | rfl | rfl
  all_goals
   go_enter Tryz.func101, Tryz.ntmps101
   go_wp2_with fail
   go_ret
   exact ⟨rfl, Below.refl _ _⟩
 ·rw [if_neg h]
  rcases (show t < 3 ∨ (3 ≤ t ∧ 5 < t) by omega) with h | ⟨h1, h2⟩
  all_goals
   go_enter Tryz.func101, Tryz.ntmps101
   go_wp2_with fail
   go_ret
   exact ⟨rfl, Below.refl _ _⟩
set_option maxRecDepth 100000 in
set_option maxHeartbeats 2000000 in
theorem aside_any (n : Nod) (a k : Value) (w w0 : World) (S : Nat → Prop) (h : Nat) (hA : AttsR false w0 S a n.attrs) (hK : NodsR false h w0 S k n.kids) :
  Calls Tryz.prog 46 #[nodV n a k] w fun e w' => e = .returned (.bool (asideT n.tag)) ∧ Below w.heap.size w w' := by
 obtain ⟨la, lc, rfl⟩ := hA.slice
 obtain ⟨ka, kc, rfl⟩ := hK.slice
 obtain ⟨W1, hW1⟩ : ∃ W1, w.alloc (.cells #[.int .i64 n.tag, .slice la n.attrs.length lc, .string ⟨n.text.toArray⟩, .slice ka n.kids.length kc] 25) = W1 := ⟨_, rfl⟩
 have hB : Below w.heap.size w W1 := hW1 ▸ (Below.refl _ _).alloc (Nat.le_refl _) _
 have hB1 : W1.heap[w.heap.size]? = some (.cells #[.int .i64 n.tag, .slice la n.attrs.length lc, .string ⟨n.text.toArray⟩, .slice ka n.kids.length kc] 25) := hW1 ▸ heap_new _ _ rfl
 have HC := Lib.hid (tagsClass_any n.tag W1)
 have HB := Lib.hid hB
 have HAs : Hid (asideT n.tag = (decide (tagC n.tag = 1) || decide (tagC n.tag = 5))) := Lib.hid rfl
 obtain ⟨p1, f1⟩ := blk hB1
 generalize tagC n.tag = c at *
 clear hA hK hB hB1
 unfold nodV
 by_cases h1 : c = 1
 ·have b1 : (c == 1) = true := by simpa using h1
  have e : asideT n.tag = true := by rw [HAs.out, h1]; rfl
  clear h1
  go_enter Tryz.func46, Tryz.ntmps46
  go_wp2_with (go_at_call 17; refine HC.out.mono ?_; rintro e w2 ⟨rfl, hb2⟩)
  go_ret
  exact ⟨by rw [e]; rfl, below_from HB.out hb2⟩
 ·have b1 : (c == 1) = false := by simpa using h1
  obtain ⟨b, hb⟩ : ∃ b, (c == 5) = b := ⟨_, rfl⟩
  have e : asideT n.tag = b := by
   rw [HAs.out, decide_eq_false h1, Bool.false_or, ← hb]
   by_cases h5 : c = 5 <;> simp [h5]
  have HE := Lib.hid e
  clear h1 e
  go_enter Tryz.func46, Tryz.ntmps46
  go_wp2_with (go_at_call 17; refine HC.out.mono ?_; rintro e w2 ⟨rfl, hb2⟩)
  go_ret
  exact ⟨by rw [HE.out]; rfl, below_from HB.out hb2⟩
end Go.Proofs.YtjpgffihafknlaaGreatDoor
namespace Go.Proofs.YtjpgffihafknlaaGreatDoor
open Go.RowKit
open Go.Proofs.Qw
attribute [local go_sem] Oper.semAt_some
set_option maxRecDepth 100000 in
set_option maxHeartbeats 4000000 in
theorem within_any (g : Nat) (caps : Array Value) (eg : ∀ args w, (callFunc g args).run Tryz.prog w = .ok (.enter g args) w) (B : Nat) (a : Aro) (lv : Value) (s s' : VSt) (w : World) (h : VwR B w a lv s)
  (hD : ∀ W, Below w.heap.size w W → VwR B W a lv s → Calls Tryz.prog g caps W fun e w' => (∃ u, e = .returned u) ∧ (∃ a' lv', VwR B w' a' lv' s') ∧ KeepT B W w') :
  Calls Tryz.prog 95 #[.pointer (some ⟨B, 0, none⟩), .func (.func g) #[] caps] w fun e w' => (∃ u, e = .returned u) ∧ VwR B w' a lv s' ∧ KeepT B w w' := by
 have h0 := h
 obtain ⟨lns, xs, hB, hI, hL, hx⟩ := h
 have hBz := lt_of_heap hB
 obtain ⟨la, lc, rfl⟩ := hI.slice
 unfold walkC at hB
 obtain ⟨p1, f1⟩ := blk hB
 obtain ⟨W1, hW1⟩ : ∃ W1, w.alloc (.cells #[.int .i64 a.quote, .slice la a.lists.length lc, .int .i64 a.kind, .slice none 0 0, .int .i64 a.bits, .string ⟨a.href.toArray⟩] 72) = W1 := ⟨_, rfl⟩
 have hb1 : Below w.heap.size w W1 := hW1 ▸ (Below.refl _ _).alloc (Nat.le_refl _) _
 have hn1 : W1.heap[w.heap.size]? = some (.cells #[.int .i64 a.quote, .slice la a.lists.length lc, .int .i64 a.kind, .slice none 0 0, .int .i64 a.bits, .string ⟨a.href.toArray⟩] 72) := hW1 ▸ heap_new _ _ rfl
 have HD := Lib.hid (hD W1 hb1 (h0.below hb1))
 have HI := Lib.hid hI
 have HN1 := Lib.hid hn1
 have HB1 := Lib.hid hb1
 have HW1 := Lib.hid hW1
 clear hI hL hx hB hD h0 hW1 hn1 hb1
 go_enter Tryz.func95, Tryz.ntmps95
 go_upto_region 1 with fail
 rw [HW1.out]
 go_upto_region 2 with (go_at_fn g; refine HD.out.mono ?_; rintro e w2 ⟨⟨u, rfl⟩, ⟨a2, lv2, lns2, xs2, hB2, hI2, hL2, hx2⟩, hk2⟩)
 have hk : KeepT B w w2 := (KeepT.of HB1.out).trans hk2
 have hn2 := hk2.heap HN1.out (Nat.ne_of_gt hBz) (by decide) (by decide)
 have hI3 := hk.row (by decide) (by decide) HI.out
 obtain ⟨q2, g2⟩ := blk hn2
 have HB2 := Lib.hid hB2
 unfold walkC at hB2
 obtain ⟨p3, f3⟩ := blk hB2
 have HL2 := Lib.hid hL2
 have HX2 := Lib.hid hx2
 have HK := Lib.hid hk
 have HI3 := Lib.hid hI3
 have hne : ¬ w.heap.size = B := Nat.ne_of_gt hBz
 have hne2 : ¬ B = w.heap.size := Nat.ne_of_lt hBz
 clear p1 f1 hB2 hL2 hx2 hI2 hk hI3 hk2 hn2
 go_wp2_with fail
 go_returns
 have hS := (((((SetB.one B w2 0 (.int .i64 a.quote)).trans (SetB.one B _ 1 (.slice la a.lists.length lc))).trans (SetB.one B _ 2 (.int .i64 a.kind))).trans (SetB.one B _ 3 (.slice none 0 0))).trans (SetB.one B _ 4 (.int .i64 a.bits))).trans (SetB.one B _ 5 (.string ⟨a.href.toArray⟩))
 exact ⟨⟨_, rfl⟩, VwR.turn HL2.out hS.blk (Nat.le_of_eq hS.size.symm) (setCell_heap (setCell_heap (setCell_heap (setCell_heap (setCell_heap (setCell_heap HB2.out _) _) _) _) _) _) HI3.out HX2.out, HK.out.trans hS.keep⟩
def aheadM (l : List Int) (k : Option Nat) : Option Nat := k.map fun k => (flatR (l.take k)).length
set_option maxRecDepth 100000 in
set_option maxHeartbeats 4000000 in
theorem text_any (x : ByteArray) (k : Option Nat) (B : Nat) (a : Aro) (lv : Value) (s : VSt) (w : World) (h : VwR B w a lv s) (ho : OpW s) (hx : x.size ≤ 2000000) (hc : capV s + 2 * x.size ≤ 10000000) (hl : a.lists.length ≤ 1000000) :
  Calls Tryz.prog 92 #[.pointer (some ⟨B, 0, none⟩), .string x, .bool k.isSome, .int .i64 (k.getD 0 : Nat)] w fun e w' => (∃ u, e = .returned u) ∧ VwR B w' a lv (textV a (runesB x) (k.map fun k => (k : Int)) s) ∧ KeepT B w w' := by
 have hBz := h.lt
 have hn := runesB_length x
 have hfl := flatR_len (runesB x)
 have HC : Hid (Calls Tryz.prog 53 #[.string x] w fun e w' => e = .returned (.int .i64 (runesB x).length) ∧ Below w.heap.size w w') := Lib.hid (charsCount_any x w (by omega))
 obtain ⟨F, hF⟩ : ∃ F, flatR (runesB x) = F := ⟨_, rfl⟩
 have HF : Hid (∀ W, Calls Tryz.prog 52 #[.string x] W fun e w' => ∃ fa fc, e = .returned (.slice fa F.length fc) ∧ RunesR true w' (fun b => W.heap.size ≤ b) (.slice fa F.length fc) F ∧ Below W.heap.size W w') := Lib.hid fun W => (flat_any x W (by omega)).mono fun _ _ ⟨v, h1, h2, h3⟩ => by
  rw [hF] at h2
  obtain ⟨fa, fc, rfl⟩ := h2.slice
  exact ⟨fa, fc, h1, h2, h3⟩
 obtain ⟨q, hq⟩ : ∃ q, (flatR ((runesB x).take (k.getD 0))).length = q := ⟨_, rfl⟩
 have HP : Hid (∀ W, Calls Tryz.prog 121 #[.string x, .int .i64 0, .int .i64 (k.getD 0 : Nat)] W fun e w' => ∃ t, e = .returned (.string t) ∧ (∀ W, Calls Tryz.prog 52 #[.string t] W fun e w' => ∃ fa fc, e = .returned (.slice fa q fc) ∧ Below W.heap.size W w') ∧ Below W.heap.size W w') := Lib.hid fun W => (partChars_any x (k.getD 0) W (by omega)).mono fun _ _ ⟨t, h1, h2, h3, h4⟩ => by
  refine ⟨t, h1, fun W' => (flat_any t W' (by omega)).mono fun _ _ ⟨v, g1, g2, g3⟩ => ?_, h4⟩
  rw [h2] at g2
  obtain ⟨fa, fc, rfl⟩ := g2.slice
  rw [hq] at g1
  exact ⟨fa, fc, g1, g3⟩
 obtain ⟨n, hN⟩ : ∃ n, (runesB x).length = n := ⟨_, rfl⟩
 have HE : Hid (∀ (m : Option Nat), m = aheadM (runesB x) k → (∀ j, m = some j → metV (stT a F m s F.length) = textV a (runesB x) (k.map fun k => (k : Int)) s) ∧ (m = none → stT a F m s F.length = textV a (runesB x) (k.map fun k => (k : Int)) s)) := Lib.hid fun m hm => by
  subst hm
  rw [← hF]
  cases k with
  | none => exact ⟨(fun j hj => by cases hj), fun _ => stT_none a (runesB x) s⟩
  | some k => exact ⟨fun j hj => stT_some a (runesB x) k s, fun hh => by cases hh⟩
 have HCap : Hid (∀ m j, capV (stT a F m s j) ≤ 10000000) := Lib.hid fun m j => by
  have := cap_stT a F m s j
  rw [hF] at hfl
  omega
 have HOp : Hid (∀ m j, OpW (stT a F m s j)) := Lib.hid fun m j => opw_stT a F m j ho
 have HV0 := Lib.hid h
 have HM : Hid (∀ k', k = some k' → (n ≤ k' → q = F.length) ∧ aheadM (runesB x) k = some q) := Lib.hid fun k' hk => by
  subst hk
  refine ⟨fun h1 => ?_, ?_⟩
  ·rw [← hq, ← hF]
   simp only [Option.getD_some]
   rw [List.take_of_length_le (by omega)]
  ·unfold aheadM
   rw [← hq]
   rfl
 have hFl : F.length ≤ 2000000 := by rw [← hF]; omega
 have hnl : n ≤ 2000000 := by omega
 rw [hN] at HC
 clear h ho hc hn hfl hN hF hq hx
 cases k with
 | none =>
  have HE2 := Lib.hid ((HE.out none rfl).2 rfl)
  clear HE HM
  simp only [Option.isSome_none, Option.getD_none] at *
  go_enter Tryz.func92, Tryz.ntmps92
  go_wp2_with (first
   | (go_at_call 53; refine HC.out.mono ?_; rintro e w1 ⟨rfl, hb1⟩)
   | (go_at_call 121; refine (HP.out _).mono ?_; rintro e w3 ⟨t, rfl, HFt, hb3⟩; have HFt := Lib.hid HFt)
   | (go_at_call 52; (with_reducible refine (HF.out _).mono ?_); rintro e w2 ⟨fa, fc, rfl, hv2, hb2⟩)
   | (go_at_call 52; refine (HFt.out _).mono ?_; rintro e w4 ⟨ta, tc, rfl, hb4⟩))
  have hx4 : Below w.heap.size w w4 := below_from (below_from (below_from hb1 hb2) hb3) hb4
  have HX4 := Lib.hid hx4
  have HV4 := Lib.hid (HV0.out.below hx4)
  have hB4 : B < w1.heap.size := Nat.lt_of_lt_of_le hBz hb1.size
  have HROW : Hid (RunesR true w4 (fun b => B < b) (.slice fa F.length fc) F) := Lib.hid (((hv2.below (rdOf_stable _) hb3).below (rdOf_stable _) hb4).stable (rdOf_stable _) (Keeps.refl _ _) (fun b hb _ => Nat.lt_of_lt_of_le hB4 hb))
  clear hx4 hB4 hv2 hb1 hb2 hb3 hb4 HF HP HC HFt HV0
  go_loopw [33] (fun i wr => ∃ j : Nat, j ≤ F.length ∧ i = .int .i64 j ∧ Hid (VwR B wr a lv (stT a F none s j)) ∧ Hid (KeepT B w4 wr)) (fun i _ => F.length - (intOf i).toNat)
  case atStart => exact ⟨0, Nat.zero_le _, rfl, Lib.hid (by rw [stT_zero]; exact HV4.out), Lib.hid (KeepT.refl _ _)⟩
  case round =>
   obtain ⟨j, hj, rfl, HVr, HKr⟩ := hrel
   by_cases hlt : j < F.length
   ·obtain ⟨c, hcj, _⟩ := getOf F j hlt
    obtain ⟨fa', fc', e, hfc, hfm, hxr⟩ := runes_shape (HKr.out.row (by decide) (by decide) HROW.out)
    cases e
    obtain ⟨b, o, rfl, hbz, hcell⟩ := hxr j c hcj
    have HST := Lib.hid (stT_step a none s hcj)
    have i0 : (0 : Int) ≤ (j : Int) := Int.natCast_nonneg _
    have i1 : (j : Int) < (F.length : Int) := by omega
    unfold maxLen at hfm
    clear hxr hcj
    rw [if_neg (by simp)] at HST
    have HPut := Lib.hid (put_any B a lv _ c wr HVr.out (HOp.out none j) (HCap.out none j) hl)
    rw [← HST.out] at HPut
    go_wp2_with (go_at_call 94; refine HPut.out.mono ?_; rintro e w5 ⟨⟨u, rfl⟩, hv5, hk5⟩)
    go_roundw
    case rel => exact ⟨j + 1, hlt, by go_num, Lib.hid hv5, Lib.hid (HKr.out.trans hk5)⟩
    case measure => simp [intOf]; omega
   ·obtain rfl : j = F.length := by omega
    go_wp2_with fail
    go_returns
    rw [← HE2.out]
    exact ⟨⟨_, rfl⟩, HVr.out, (KeepT.of HX4.out).trans HKr.out⟩
 | some k =>
  have HE2 := Lib.hid ((HE.out (some q) (HM.out k rfl).2.symm).1 q rfl)
  have HQ := Lib.hid (HM.out k rfl).1
  clear HE HM
  simp only [Option.isSome_some, Option.getD_some] at *
  go_enter Tryz.func92, Tryz.ntmps92
  go_upto_if 28 with (first
   | (go_at_call 53; refine HC.out.mono ?_; rintro e w1 ⟨rfl, hb1⟩)
   | (go_at_call 121; refine (HP.out _).mono ?_; rintro e w3 ⟨t, rfl, HFt, hb3⟩; have HFt := Lib.hid HFt)
   | (go_at_call 52; (with_reducible refine (HF.out _).mono ?_); rintro e w2 ⟨fa, fc, rfl, hv2, hb2⟩)
   | (go_at_call 52; refine (HFt.out _).mono ?_; rintro e w4 ⟨ta, tc, rfl, hb4⟩))
  have hx4 : Below w.heap.size w w4 := below_from (below_from (below_from hb1 hb2) hb3) hb4
  have HX4 := Lib.hid hx4
  have HV4 := Lib.hid (HV0.out.below hx4)
  have hB4 : B < w1.heap.size := Nat.lt_of_lt_of_le hBz hb1.size
  have HROW : Hid (RunesR true w4 (fun b => B < b) (.slice fa F.length fc) F) := Lib.hid (((hv2.below (rdOf_stable _) hb3).below (rdOf_stable _) hb4).stable (rdOf_stable _) (Keeps.refl _ _) (fun b hb _ => Nat.lt_of_lt_of_le hB4 hb))
  clear hx4 hB4 hv2 hb1 hb2 hb3 hb4 HF HP HC HFt HV0
  go_cut [10] from 29 to 30 (fun r wx => r = .int .i64 q ∧ wx = w4)
  case first => as_aux_lemma =>
   by_cases hnk : n ≤ k
   ·have hqF : F.length = q := (HQ.out hnk).symm
    go_wp2_with fail
    go_meet
    case rel => exact ⟨rfl, rfl⟩
   ·go_wp2_with fail
    go_meet
    case rel => exact ⟨rfl, rfl⟩
  case rest =>
  obtain ⟨rfl, rfl⟩ := hcut
  go_wp2_with fail
  go_loopw [33] (fun i wr => ∃ j : Nat, j ≤ F.length ∧ i = .int .i64 j ∧ Hid (VwR B wr a lv (stT a F (some q) s j)) ∧ Hid (KeepT B wc wr)) (fun i _ => F.length - (intOf i).toNat)
  case atStart => exact ⟨0, Nat.zero_le _, rfl, Lib.hid (by rw [stT_zero]; exact HV4.out), Lib.hid (KeepT.refl _ _)⟩
  case round =>
   obtain ⟨j, hj, rfl, HVr, HKr⟩ := hrel
   by_cases hlt : j < F.length
   ·obtain ⟨c, hcj, _⟩ := getOf F j hlt
    obtain ⟨fa', fc', e, hfc, hfm, hxr⟩ := runes_shape (HKr.out.row (by decide) (by decide) HROW.out)
    cases e
    obtain ⟨b, o, rfl, hbz, hcell⟩ := hxr j c hcj
    have HST := Lib.hid (stT_step a (some q) s hcj)
    have i0 : (0 : Int) ≤ (j : Int) := Int.natCast_nonneg _
    have i1 : (j : Int) < (F.length : Int) := by omega
    unfold maxLen at hfm
    clear hxr hcj
    by_cases hjq : j = q
    ·subst hjq
     replace HST : Hid (stT a F (some j) s (j + 1) = putV a c (metV (stT a F (some j) s j))) := Lib.hid (by rw [HST.out, if_pos rfl])
     have HMet := Lib.hid (met_any B a lv _ wr HVr.out (HOp.out (some j) j) (by have := HCap.out (some j) j; unfold capV at this; omega))
     have HPut : Hid (∀ W, VwR B W a lv (metV (stT a F (some j) s j)) → Calls Tryz.prog 94 #[.pointer (some ⟨B, 0, none⟩), .int .i32 c] W fun e w' => (∃ u, e = .returned u) ∧ VwR B w' a lv (stT a F (some j) s (j + 1)) ∧ KeepT B W w') := Lib.hid fun W hW => by
      rw [HST.out]
      exact put_any B a lv _ c W hW (opw_met (HOp.out (some j) j)) (by rw [cap_met]; exact HCap.out (some j) j) hl
     go_wp2_with (first
      | (go_at_call 93; refine HMet.out.mono ?_; rintro e w5 ⟨⟨u, rfl⟩, hv5, hk5⟩)
      | (go_at_call 94; refine (HPut.out _ hv5).mono ?_; rintro e w6 ⟨⟨u, rfl⟩, hv6, hk6⟩))
     go_roundw
     case rel => exact ⟨j + 1, hlt, by go_num, Lib.hid hv6, Lib.hid ((HKr.out.trans hk5).trans hk6)⟩
     case measure => simp [intOf]; omega
    ·have hd : decide ((j : Int) = (q : Int)) = false := decide_eq_false (by omega)
     have hd2 : ((j : Int) == (q : Int)) = false := beq_eq_false_iff_ne.2 (by omega)
     replace HST : Hid (stT a F (some q) s (j + 1) = putV a c (stT a F (some q) s j)) := Lib.hid (by rw [HST.out, if_neg (by simp; omega)])
     have HPut := Lib.hid (put_any B a lv _ c wr HVr.out (HOp.out (some q) j) (HCap.out (some q) j) hl)
     rw [← HST.out] at HPut
     clear hjq
     go_wp2_with (go_at_call 94; refine HPut.out.mono ?_; rintro e w5 ⟨⟨u, rfl⟩, hv5, hk5⟩)
     go_roundw
     case rel => exact ⟨j + 1, hlt, by go_num, Lib.hid hv5, Lib.hid (HKr.out.trans hk5)⟩
     case measure => simp [intOf]; omega
   ·obtain rfl : j = F.length := by omega
    have HMet := Lib.hid (met_any B a lv _ wr HVr.out (HOp.out (some q) F.length) (by have := HCap.out (some q) F.length; unfold capV at this; omega))
    go_wp2_with (go_at_call 93; refine HMet.out.mono ?_; rintro e w5 ⟨⟨u, rfl⟩, hv5, hk5⟩)
    go_returns
    rw [← HE2.out]
    exact ⟨⟨_, rfl⟩, hv5, ((KeepT.of HX4.out).trans HKr.out).trans hk5⟩
end Go.Proofs.YtjpgffihafknlaaGreatDoor
