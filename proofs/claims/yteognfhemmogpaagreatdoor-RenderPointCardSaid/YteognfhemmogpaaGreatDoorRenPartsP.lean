/- A keeper for loops over a function whose body appends to a row: what lay below; the iterator's own boxes. -/
import Derived.Test.YteognfhemmogpaaGreatDoorTellsP
import Derived.Test.YteognfhemmogpaaGreatDoorDocPosP
import Derived.Lib.QuoteLoop
import Derived.Lib.TrimUEq
import Derived.Lib.SplitLaws
import Derived.Lib.IndexLaws
import Derived.Lib.TrimByte
import Derived.Lib.Join
import Derived.Laws.Entries
import Derived.Deep.RegionHeld3
import Derived.StillTailTactics
import Derived.Deep.DrawnRows
import Derived.Deep.Cut
import Derived.Deep.CutRange
set_option linter.unusedVariables false
set_option linter.unusedSimpArgs false
namespace Go.Proofs.YteognfhemmogpaaGreatDoor
open Go.RowKit
open Go.Proofs.Qw
attribute [local go_sem] Oper.semAt_some
attribute [local go_sem] Oper.semAt_some
structure Kb (n₀ base top : Nat) (W W' : World) : Prop where
 below : Below n₀ W W'
 cells : ∀ k o, base ≤ k → k < top → W.heap[k]? = some o → o.isCells = true → W'.heap[k]? = some o
theorem Kb.t {n₀ base top : Nat} {A B C : World} (h : Kb n₀ base top A B) (k : Kb n₀ base top B C) : Kb n₀ base top A C := ⟨h.below.trans k.below, fun i o hi ht ho hc => k.cells i o hi ht (h.cells i o hi ht ho hc) hc⟩
theorem Kb.of_kp {n₀ base top : Nat} {A B : World} (h : Kp n₀ base A B) : Kb n₀ base top A B := ⟨h.below, fun i o hi _ ho hc => h.cells i o hi ho hc⟩
theorem Kb.b {n₀ base top : Nat} {w : World} (hn : n₀ ≤ w.heap.size) (W : World) (l : Nat) (o o' : Obj) (hl : w.heap.size ≤ l) (h : W.heap[l]? = some o) (hc : o.isCells = false) (hw : o.isWalk = false) : Kb n₀ base top W (W.putObj l o') := .of_kp (Kp.b hn W l o o' hl h hc hw)
theorem Kb.of_below {n₀ base top : Nat} {W W' : World} (hn : n₀ ≤ W.heap.size) (hb : Below W.heap.size W W') : Kb n₀ base top W W' := .of_kp (.of_below hn hb)
theorem Kb.of_top {n₀ base top Z : Nat} {W W' : World} (hn : n₀ ≤ Z) (ht : top ≤ Z) (hb : Below Z W W') : Kb n₀ base top W W' := ⟨hb.mono hn, fun k _ _ hk h _ => (hb.block k (by omega)).trans h⟩
theorem Kb.setCell {n₀ base top : Nat} (W : World) {B o : Nat} (h1 : n₀ ≤ B) (h2 : B < base ∨ top ≤ B) (v : Value) : Kb n₀ base top W (W.setCell ⟨B, o, none⟩ v) :=
 ⟨(Below.refl _ _).setCell h1 _, fun k u hk ht h _ => by rw [Below.heap_setCell _ _ _ _ (by simp; omega)]; exact h⟩
theorem wpListIn_append_R {F : Fence} {m : Nat} {P : Program} (w : World) {ops : Array Oper} {rest : List Oper} {o : Oper} {a : Act} {Q : Exit → Act → World → Prop} (hgd : o.guard = none) (s x : Operand) (st tx : TypeId)
  (ho : o.op = .call { callee := .builtin .append, args := #[s, x], argTypes := #[st, tx] }) {t : TypeId} {k : Nat} (hT : RowT P st t k) {α : Type} {R : Rd α} (hE : Elt t k R) (n : Nat) (v y : Value) {xs ys : List α} {news : List Value} (hs : a.eval s = v) (hx : a.eval x = y)
  (h1 : SliceR t k R true w (fun b => n ≤ b) v xs) (hn : n ≤ w.heap.size) (hsrc : Src P k tx y ys.length news w) (hnew : NewsR k R w (fun b => n ≤ b) news ys) (hlen : xs.length + ys.length ≤ 100000000)
  (h : ∀ v' w', SliceR t k R true w' (fun b => n ≤ b) v' (xs ++ ys) → Below n w w' → w.grownBy w' v.ownBlock → (v'.ownBlock = v.ownBlock ∨ v'.ownBlock = some w.heap.size) → wpListIn F m P ops Q rest (a.put o.dst v') w') :
  wpListIn F m P ops Q (o :: rest) a w := by
 refine wpListIn_plain hgd fun K hK => ?_
 obtain ⟨v', w', hr, h2, h3, h4, h5⟩ := append_R (P := P) (ty := o.type) hT hE h1 hn hsrc hnew hlen
 unfold Oper.wpIn
 refine ⟨?_, ?_⟩
 ·simp [Oper.about, ho, resolve, Target.leads, Sem.run_pure]
 ·rw [Oper.semAt_plain F _ _ (by rw [ho]; intro c hc'; cases hc')]
  simp [execOp, ho, resolve, invoke, builtin, hs, hx, hr, Result.andThen]
  exact hK _ _ (h v' w' h2 h3 h4 h5)
theorem append_keeps {α : Type} {t : TypeId} {k : Nat} {R : Rd α} {w w' : World} {S : Nat → Prop} {v : Value} {xs : List α} (h : SliceR t k R true w S v xs) (hne : v = .slice none 0 0 ∨ xs ≠ []) (hg : w.grownBy w' v.ownBlock) : KeepsOthers w w' :=
 KeepsOthers.of_grownBy hg fun j o ej hj => by
  obtain ⟨a, c, rfl, _, _, hx⟩ := h
  rcases hx with ⟨rfl, hc0⟩ | ⟨b, o', rfl, _, _, hf, _⟩
  ·rcases hne with e | e
   ·cases e
    cases ej
   ·exact absurd rfl e
  ·obtain ⟨cs, h1, _⟩ := hf rfl
   have ej : some b = some j := ej
   cases ej
   rw [h1] at hj
   cases hj
   rfl
end Go.Proofs.YteognfhemmogpaaGreatDoor
namespace Go.Proofs.Qw
open Go.RowKit
structure Att where
 name : List UInt8
 value : List UInt8
 deriving DecidableEq, Inhabited
inductive Nod where
 | mk (tag : Int) (attrs : List Att) (text : List UInt8) (kids : List Nod)
 deriving Inhabited
namespace Nod
def tag : Nod → Int | mk t _ _ _ => t
def attrs : Nod → List Att | mk _ a _ _ => a
def text : Nod → List UInt8 | mk _ _ x _ => x
def kids : Nod → List Nod | mk _ _ _ k => k
theorem eta (n : Nod) : mk n.tag n.attrs n.text n.kids = n := by cases n; rfl
mutual
def decEq : (a b : Nod) → Decidable (a = b)
 | mk t a x k, mk t' a' x' k' =>
  if h1 : t = t' then if h2 : a = a' then if h3 : x = x' then
   match decEqs k k' with
   | isTrue h => isTrue (by subst h1 h2 h3 h; rfl)
   | isFalse h => isFalse (by intro e; cases e; exact h rfl)
  else isFalse (by intro e; cases e; exact h3 rfl)
  else isFalse (by intro e; cases e; exact h2 rfl)
  else isFalse (by intro e; cases e; exact h1 rfl)
def decEqs : (a b : List Nod) → Decidable (a = b)
 | [], [] => isTrue rfl
 | [], _ :: _ => isFalse (by simp)
 | _ :: _, [] => isFalse (by simp)
 | x :: xs, y :: ys => match decEq x y, decEqs xs ys with
  | isTrue h1, isTrue h2 => isTrue (by rw [h1, h2])
  | isFalse h, _ => isFalse (by intro e; cases e; exact h rfl)
  | _, isFalse h => isFalse (by intro e; cases e; exact h rfl)
end
instance : DecidableEq Nod := decEq
mutual
def count : Nod → Nat | mk _ _ _ ks => 1 + counts ks
def counts : List Nod → Nat | [] => 0 | k :: ks => count k + counts ks
end
mutual
def deep : Nod → Nat | mk _ _ _ ks => deeps ks
def deeps : List Nod → Nat | [] => 0 | k :: ks => max (deep k + 1) (deeps ks)
end
theorem counts_append (a b : List Nod) : counts (a ++ b) = counts a + counts b := by
 induction a with
 | nil => simp [counts]
 | cons x xs ih => simp [counts, ih]; omega
end Nod
def partsBy {α : Type} (r : α → α → Bool) : List α → List (List α)
 | [] => []
 | a :: l => (a :: l.takeWhile (r a)) :: partsBy r (l.dropWhile (r a))
 termination_by l => l.length
 decreasing_by exact Nat.lt_succ_of_le (List.dropWhile_suffix _).length_le
theorem parts_nil {α : Type} (r : α → α → Bool) : partsBy r [] = [] := by unfold partsBy; rfl
theorem parts_cons {α : Type} (r : α → α → Bool) (a : α) (l : List α) : partsBy r (a :: l) = (a :: l.takeWhile (r a)) :: partsBy r (l.dropWhile (r a)) := by rw [partsBy]
theorem takeWhile_all {α : Type} {p : α → Bool} : ∀ {l : List α} (m : List α), (∀ x ∈ l, p x = true) → (l ++ m).takeWhile p = l ++ m.takeWhile p
 | [], m, _ => rfl
 | a :: l, m, h => by rw [List.cons_append, List.takeWhile_cons_of_pos (h a (by simp)), takeWhile_all m (fun x hx => h x (by simp [hx])), List.cons_append]
theorem dropWhile_all {α : Type} {p : α → Bool} : ∀ {l : List α} (m : List α), (∀ x ∈ l, p x = true) → (l ++ m).dropWhile p = m.dropWhile p
 | [], m, _ => rfl
 | a :: l, m, h => by rw [List.cons_append, List.dropWhile_cons_of_pos (h a (by simp)), dropWhile_all m (fun x hx => h x (by simp [hx]))]
theorem while_stop {α : Type} {p : α → Bool} : ∀ {l : List α} (m : List α), (∃ x ∈ l, p x = false) → (l ++ m).takeWhile p = l.takeWhile p ∧ (l ++ m).dropWhile p = l.dropWhile p ++ m ∧ l.dropWhile p ≠ []
 | [], m, ⟨x, hx, _⟩ => by cases hx
 | a :: l, m, ⟨x, hx, hp⟩ => by
  by_cases ha : p a = true
  ·have : ∃ x ∈ l, p x = false := by
    rcases List.mem_cons.1 hx with rfl | h
    ·rw [ha] at hp; cases hp
    ·exact ⟨x, h, hp⟩
   obtain ⟨h1, h2, h3⟩ := while_stop m this
   rw [List.cons_append, List.takeWhile_cons_of_pos ha, List.takeWhile_cons_of_pos ha, List.dropWhile_cons_of_pos ha, List.dropWhile_cons_of_pos ha, h1, h2]
   exact ⟨rfl, rfl, h3⟩
  ·rw [List.cons_append, List.takeWhile_cons_of_neg ha, List.takeWhile_cons_of_neg ha, List.dropWhile_cons_of_neg ha, List.dropWhile_cons_of_neg ha]
   exact ⟨rfl, rfl, by simp⟩
theorem dropWhile_last {α : Type} {p : α → Bool} {l : List α} (h : l.dropWhile p ≠ []) : (l.dropWhile p).getLast? = l.getLast? := by
 obtain ⟨t, ht⟩ := List.dropWhile_suffix (l := l) p
 conv => rhs; rw [← ht]
 rw [List.getLast?_append]
 cases hg : (l.dropWhile p).getLast? with
 | none => rw [List.getLast?_eq_none_iff] at hg; exact absurd hg h
 | some x => rfl
theorem parts_snoc {α : Type} {r : α → α → Bool} (hs : ∀ a b, r a b = r b a) (ht : ∀ a b c, r a b = true → r b c = true → r a c = true) (c : α) : ∀ (n : Nat) (l : List α) (b : α), l.length ≤ n → l.getLast? = some b →
  ∃ gs g, partsBy r l = gs ++ [g] ∧ g.getLast? = some b ∧ partsBy r (l ++ [c]) = if r b c = true then gs ++ [g ++ [c]] else gs ++ [g] ++ [[c]]
 | 0, l, b, hl, hb => by
  have : l = [] := List.length_eq_zero_iff.1 (by omega)
  subst this
  cases hb
 | n + 1, [], b, hl, hb => by cases hb
 | n + 1, a :: l, b, hl, hb => by
  by_cases hall : ∀ x ∈ l, r a x = true
  ·have e1 : l.takeWhile (r a) = l := by have := takeWhile_all (p := r a) [] hall; simpa using this
   have e2 : l.dropWhile (r a) = [] := by have := dropWhile_all (p := r a) [] hall; simpa using this
   have hab : a = b ∨ r a b = true := by
    cases l with
    | nil => left; simpa using hb
    | cons y ys =>
     right
     rw [List.getLast?_cons_cons] at hb
     exact hall b (List.mem_of_getLast? hb)
   refine ⟨[], a :: l, by rw [parts_cons, e1, e2, parts_nil]; rfl, hb, ?_⟩
   rw [List.cons_append, parts_cons, takeWhile_all _ hall, dropWhile_all _ hall]
   by_cases hc : r b c = true
   ·have hac : r a c = true := hab.elim (fun e => e ▸ hc) (fun e => ht _ _ _ e hc)
    rw [if_pos hc, List.takeWhile_cons_of_pos hac, List.dropWhile_cons_of_pos hac]
    simp [parts_nil]
   ·have hac : ¬ r a c = true := fun e => hc (hab.elim (fun h => h ▸ e) (fun h => ht b a c (by rw [hs]; exact h) e))
    rw [if_neg hc, List.takeWhile_cons_of_neg hac, List.dropWhile_cons_of_neg hac, parts_cons]
    simp [parts_nil]
  ·have hex : ∃ x ∈ l, r a x = false := by
    obtain ⟨x, hx⟩ := Classical.not_forall.1 hall
    obtain ⟨h1, h2⟩ := Classical.not_imp.1 hx
    exact ⟨x, h1, by simpa using h2⟩
   obtain ⟨h1, h2, h3⟩ := while_stop (p := r a) [c] hex
   have hne : l ≠ [] := by rintro rfl; obtain ⟨x, hx, _⟩ := hex; cases hx
   have hlb : l.getLast? = some b := by
    cases l with
    | nil => exact absurd rfl hne
    | cons y ys => rw [List.getLast?_cons_cons] at hb; exact hb
   obtain ⟨gs, g, k1, k2, k3⟩ := parts_snoc hs ht c n (l.dropWhile (r a)) b (by have := (List.dropWhile_suffix (l := l) (r a)).length_le; simp at hl; omega) ((dropWhile_last h3).trans hlb)
   refine ⟨(a :: l.takeWhile (r a)) :: gs, g, by rw [parts_cons, k1]; rfl, k2, ?_⟩
   rw [List.cons_append, parts_cons, h1, h2, k3]
   split <;> simp
theorem parts_flat {α : Type} (r : α → α → Bool) : ∀ (n : Nat) (l : List α), l.length ≤ n → (partsBy r l).flatten = l
 | 0, l, hl => by
  have : l = [] := List.length_eq_zero_iff.1 (by omega)
  subst this
  rw [parts_nil]; rfl
 | n + 1, [], _ => by rw [parts_nil]; rfl
 | n + 1, a :: l, hl => by
  rw [parts_cons, List.flatten_cons, parts_flat r n _ (by have := (List.dropWhile_suffix (l := l) (r a)).length_le; simp at hl; omega), List.cons_append, List.takeWhile_append_dropWhile]
theorem parts_ne {α : Type} (r : α → α → Bool) : ∀ (n : Nat) (l : List α), l.length ≤ n → ∀ p ∈ partsBy r l, p ≠ []
 | 0, l, hl => by
  have : l = [] := List.length_eq_zero_iff.1 (by omega)
  subst this
  rw [parts_nil]; simp
 | n + 1, [], _ => by rw [parts_nil]; simp
 | n + 1, a :: l, hl => by
  rw [parts_cons]
  intro p hp
  rcases List.mem_cons.1 hp with rfl | h
  ·simp
  ·exact parts_ne r n _ (by have := (List.dropWhile_suffix (l := l) (r a)).length_le; simp at hl; omega) p h
end Go.Proofs.Qw
namespace Go.Proofs.Qw
open Go.RowKit
def hrefA (h : List UInt8) : List Att := [⟨[104, 114, 101, 102], h⟩]
namespace Nod
mutual
def Sane : Nod → Prop | mk _ ats x ks => (x.length ≤ 281474976710656 ∧ ks.length ≤ 281474976710656 ∧ ats.length ≤ 281474976710656 ∧ ∀ a ∈ ats, a.name.length ≤ 281474976710656 ∧ a.value.length ≤ 281474976710656) ∧ Sanes ks
def Sanes : List Nod → Prop | [] => True | k :: ks => Sane k ∧ Sanes ks
end
end Nod
end Go.Proofs.Qw
namespace Go.Proofs.Qw
open Go.RowKit
abbrev Wr := Int × List Att
def txtL (l : List Int) : List UInt8 := l.flatMap Lib.encodeRune
def txtN (l : List Int) : Nod := .mk 0 [] (txtL l) []
def brN : Nod := .mk 16 [] [] []
def wrapO (w : Option Wr) (ns : List Nod) : List Nod := match w with | none => ns | some w => [.mk w.1 w.2 [] ns]
def textR (a b : Cel) : Bool := decide (a.r ≠ 10) && decide (b.r ≠ 10)
def leafP (p : List Cel) : Nod := if (p.headD default).r = 10 then brN else txtN (p.map (·.r))
def leavesN (l : List Cel) : List Nod := (partsBy textR l).map leafP
def gr : List (Cel → Option Wr) → List Cel → List Nod
 | [], l => leavesN l
 | k :: ks, l => (partsBy (fun a b => decide (k a = k b)) l).flatMap fun p => wrapO (k (p.headD default)) (gr ks p)
def lastN (f : Nod → Nod) : List Nod → List Nod
 | [] => []
 | [n] => [f n]
 | n :: m :: l => n :: lastN f (m :: l)
theorem lastN_append (f : Nod → Nod) (a : List Nod) : ∀ {b : List Nod}, b ≠ [] → lastN f (a ++ b) = a ++ lastN f b := by
 induction a with
 | nil => intro b _; rfl
 | cons x a ih =>
  intro b hb
  have hne : a ++ b ≠ [] := by intro e; exact hb (List.append_eq_nil_iff.1 e).2
  cases h : a ++ b with
  | nil => exact absurd h hne
  | cons y l => rw [List.cons_append, h, lastN, ← h, ih hb, List.cons_append]
theorem lastN_one (f : Nod → Nod) (n : Nod) : lastN f [n] = [f n] := rfl
def cellN (c : Cel) : Nod := if c.r = 10 then brN else txtN [c.r]
def addC : List (Cel → Option Wr) → Cel → Cel → List Nod → List Nod
 | [], b, c, ns => if textR b c = true then lastN (fun n => .mk n.tag n.attrs (n.text ++ txtL [c.r]) n.kids) ns else ns ++ [cellN c]
 | k :: ks, b, c, ns => if k b = k c then (match k c with | none => addC ks b c ns | some _ => lastN (fun n => .mk n.tag n.attrs n.text (addC ks b c n.kids)) ns) else ns ++ wrapO (k c) (gr ks [c])
theorem addC_append (b c : Cel) : ∀ (ks : List (Cel → Option Wr)) (a : List Nod) {ns : List Nod}, ns ≠ [] → addC ks b c (a ++ ns) = a ++ addC ks b c ns
 | [], a, ns, h => by
  unfold addC
  split
  ·exact lastN_append _ _ h
  ·rw [List.append_assoc]
 | k :: ks, a, ns, h => by
  unfold addC
  split
  ·split
   ·exact addC_append b c ks a h
   ·exact lastN_append _ _ h
  ·rw [List.append_assoc]
theorem textR_symm (a b : Cel) : textR a b = textR b a := Bool.and_comm _ _
theorem textR_trans (a b c : Cel) (h1 : textR a b = true) (h2 : textR b c = true) : textR a c = true := by
 unfold textR at *
 simp only [Bool.and_eq_true] at *
 exact ⟨h1.1, h2.2⟩
theorem keyR_symm (k : Cel → Option Wr) (a b : Cel) : decide (k a = k b) = decide (k b = k a) := decide_eq_decide.2 ⟨Eq.symm, Eq.symm⟩
theorem keyR_trans (k : Cel → Option Wr) (a b c : Cel) (h1 : decide (k a = k b) = true) (h2 : decide (k b = k c) = true) : decide (k a = k c) = true := by
 simp only [decide_eq_true_eq] at *
 exact h1.trans h2
theorem head_append {α : Type} [Inhabited α] {p q : List α} (h : p ≠ []) : (p ++ q).headD default = p.headD default := by
 cases p with
 | nil => exact absurd rfl h
 | cons a l => rfl
theorem parts_one {α : Type} (r : α → α → Bool) (a : α) : partsBy r [a] = [[a]] := by rw [parts_cons]; simp [parts_nil]
theorem wrapO_ne {w : Option Wr} {ns : List Nod} (h : ns ≠ []) : wrapO w ns ≠ [] := by
 cases w <;> simp [wrapO, h]
theorem parts_ne_nil {α : Type} {r : α → α → Bool} {l : List α} (h : l ≠ []) : partsBy r l ≠ [] := by
 cases l with
 | nil => exact absurd rfl h
 | cons a l => rw [parts_cons]; simp
theorem gr_ne : ∀ (ks : List (Cel → Option Wr)) {l : List Cel}, l ≠ [] → gr ks l ≠ []
 | [], l, h => by
  unfold gr leavesN
  intro e
  exact parts_ne_nil h (List.map_eq_nil_iff.1 e)
 | k :: ks, l, h => by
  unfold gr
  intro e
  obtain ⟨p, ps, hp⟩ : ∃ p ps, partsBy (fun a b => decide (k a = k b)) l = p :: ps := by
   cases hq : partsBy (fun a b => decide (k a = k b)) l with
   | nil => exact absurd hq (parts_ne_nil h)
   | cons p ps => exact ⟨p, ps, rfl⟩
  rw [hp, List.flatMap_cons] at e
  have hpe : p ≠ [] := parts_ne _ _ l (Nat.le_refl _) p (by rw [hp]; simp)
  exact wrapO_ne (gr_ne ks hpe) (List.append_eq_nil_iff.1 e).1
theorem key_all {k : Cel → Option Wr} : ∀ (n : Nat) (l : List Cel), l.length ≤ n → ∀ p ∈ partsBy (fun a b => decide (k a = k b)) l, ∀ x ∈ p, k x = k (p.headD default)
 | 0, l, hl => by
  have : l = [] := List.length_eq_zero_iff.1 (by omega)
  subst this
  rw [parts_nil]; simp
 | n + 1, [], _ => by rw [parts_nil]; simp
 | n + 1, a :: l, hl => by
  rw [parts_cons]
  intro p hp
  rcases List.mem_cons.1 hp with rfl | h
  ·intro x hx
   rcases List.mem_cons.1 hx with rfl | hx
   ·rfl
   ·have := List.all_takeWhile (l := l) (p := fun b => decide (k a = k b))
    rw [List.all_eq_true] at this
    have := this x hx
    simpa using (of_decide_eq_true this).symm
  ·exact key_all n _ (by have := (List.dropWhile_suffix (l := l) (fun b => decide (k a = k b))).length_le; simp at hl; omega) p h
theorem gr_snoc (b c : Cel) : ∀ (ks : List (Cel → Option Wr)) (l : List Cel), l.getLast? = some b → gr ks (l ++ [c]) = addC ks b c (gr ks l)
 | [], l, hb => by
  obtain ⟨gs, g, h1, h2, h3⟩ := parts_snoc textR_symm textR_trans c _ l b (Nat.le_refl _) hb
  have hg : g ≠ [] := by rintro rfl; cases h2
  unfold gr leavesN addC
  rw [h1, h3]
  split
  ·rename_i hr
   rw [List.map_append, List.map_append, lastN_append _ _ (by simp)]
   congr 1
   simp only [List.map_cons, List.map_nil, lastN_one, List.cons.injEq, and_true]
   unfold leafP
   rw [head_append hg]
   have hbr : b.r ≠ 10 := by unfold textR at hr; simp at hr; exact hr.1
   have hall : ∀ (n : Nat) (l : List Cel), l.length ≤ n → ∀ p ∈ partsBy textR l, ∀ y, p.getLast? = some y → y.r ≠ 10 → (p.headD default).r ≠ 10 := by
    intro n
    induction n with
    | zero => intro l hl; have : l = [] := List.length_eq_zero_iff.1 (by omega); subst this; rw [parts_nil]; simp
    | succ n ih =>
     intro l hl p hp y hy hyr
     cases l with
     | nil => rw [parts_nil] at hp; cases hp
     | cons a l =>
      rw [parts_cons] at hp
      rcases List.mem_cons.1 hp with rfl | h
      ·cases htw : l.takeWhile (textR a) with
       | nil => rw [htw] at hy; cases hy; exact hyr
       | cons z zs =>
        have := List.all_takeWhile (l := l) (p := textR a)
        rw [List.all_eq_true] at this
        have := this z (by rw [htw]; simp)
        unfold textR at this
        simp at this
        exact this.1
      ·exact ih _ (by have := (List.dropWhile_suffix (l := l) (textR a)).length_le; simp at hl; omega) p h y hy hyr
   have hh := hall _ l (Nat.le_refl _) g (by rw [h1]; simp) b h2 hbr
   rw [if_neg hh, if_neg hh]
   simp [txtN, Nod.tag, Nod.attrs, Nod.text, Nod.kids, txtL]
  ·rw [List.map_append, List.map_cons, List.map_nil]
   congr 1
 | k :: ks, l, hb => by
  obtain ⟨gs, g, h1, h2, h3⟩ := parts_snoc (keyR_symm k) (keyR_trans k) c _ l b (Nat.le_refl _) hb
  have hg : g ≠ [] := by rintro rfl; cases h2
  have hk : k b = k (g.headD default) := key_all _ l (Nat.le_refl _) g (by rw [h1]; simp) b (List.mem_of_getLast? h2)
  unfold gr addC
  rw [h1, h3]
  by_cases e : k b = k c
  ·rw [if_pos (decide_eq_true e), if_pos e, List.flatMap_append, List.flatMap_append, List.flatMap_cons, List.flatMap_nil, List.append_nil, List.flatMap_cons, List.flatMap_nil, List.append_nil, head_append hg, ← hk]
   cases hkc : k c with
   | none =>
    rw [e, hkc]
    simp only [wrapO]
    rw [addC_append _ _ _ _ (gr_ne ks hg), gr_snoc b c ks g h2]
   | some w =>
    rw [e, hkc]
    simp only [wrapO]
    rw [lastN_append _ _ (by simp), lastN_one, gr_snoc b c ks g h2]
    rfl
  ·rw [if_neg (by simpa using e), if_neg e, List.flatMap_append]
   congr 1
   simp
def nestW (around : List Wr) (leaf : Nod) : Nod := around.foldr (fun w n => .mk w.1 w.2 [] [n]) leaf
def putW : List Nod → List Wr → Nod → Nat → List Nod
 | ns, ws, leaf, 0 => ns ++ [nestW ws leaf]
 | ns, ws, leaf, s + 1 => lastN (fun n => .mk n.tag n.attrs n.text (putW n.kids ws.tail leaf s)) ns
def growW : Nat → Int → List Nod → List Nod
 | 0, c, ns => lastN (fun n => .mk n.tag n.attrs (n.text ++ txtL [c]) n.kids) ns
 | d + 1, c, ns => lastN (fun n => .mk n.tag n.attrs n.text (growW d c n.kids)) ns
def sharedW : List Wr → List Wr → Nat
 | a :: ats, b :: bs => if a = b then sharedW ats bs + 1 else 0
 | _, _ => 0
def wrapsOf (ks : List (Cel → Option Wr)) (c : Cel) : List Wr := ks.filterMap (fun k => k c)
def stepW (ks : List (Cel → Option Wr)) (b c : Cel) (ns : List Nod) : List Nod :=
 let w := wrapsOf ks c
 let s := sharedW (wrapsOf ks b) w
 if c.r = 10 then putW ns w brN s else if b.r ≠ 10 ∧ s = w.length ∧ s = (wrapsOf ks b).length then growW w.length c.r ns else putW ns w (txtN [c.r]) s
def Apart : List (Cel → Option Wr) → Prop
 | [] => True
 | k :: ks => (∀ k' ∈ ks, ∀ x y w w', k x = some w → k' y = some w' → w ≠ w') ∧ Apart ks
theorem wraps_cons (k : Cel → Option Wr) (ks : List (Cel → Option Wr)) (c : Cel) : wrapsOf (k :: ks) c = (match k c with | none => wrapsOf ks c | some w => w :: wrapsOf ks c) := by
 unfold wrapsOf
 rw [List.filterMap_cons]
 cases k c <;> rfl
theorem shared_zero {k : Cel → Option Wr} {ks : List (Cel → Option Wr)} (ha : Apart (k :: ks)) {b c : Cel} (h : k b ≠ k c) : sharedW (wrapsOf (k :: ks) b) (wrapsOf (k :: ks) c) = 0 := by
 rw [wraps_cons, wraps_cons]
 have hfar : ∀ (x y : Cel) (w : Wr), k x = some w → ∀ w' ∈ wrapsOf ks y, w ≠ w' := fun x y w hx w' hw => by
  obtain ⟨k', hk', e⟩ := List.mem_filterMap.1 hw
  exact ha.1 k' hk' x y w w' hx e
 cases hb : k b with
 | none =>
  cases hc : k c with
  | none => exact absurd (hb.trans hc.symm) h
  | some w =>
   simp only
   cases hw : wrapsOf ks b with
   | nil => rfl
   | cons x xs => rw [sharedW, if_neg (Ne.symm (hfar c b w hc x (by rw [hw]; simp)))]
 | some w =>
  cases hc : k c with
  | none =>
   simp only
   cases hw : wrapsOf ks c with
   | nil => rfl
   | cons x xs => rw [sharedW, if_neg (hfar b c w hb x (by rw [hw]; simp))]
  | some w' =>
   simp only
   rw [sharedW, if_neg (fun e => h (by rw [hb, hc, e]))]
theorem gr_single : ∀ (ks : List (Cel → Option Wr)) (c : Cel), gr ks [c] = [nestW (wrapsOf ks c) (cellN c)]
 | [], c => by
  unfold gr leavesN wrapsOf nestW
  rw [parts_one]
  simp only [List.map_cons, List.map_nil, List.filterMap_nil, List.foldr_nil]
  unfold leafP cellN
  simp
 | k :: ks, c => by
  unfold gr
  rw [parts_one, wraps_cons]
  simp only [List.flatMap_cons, List.flatMap_nil, List.append_nil, List.headD_cons]
  rw [gr_single ks c]
  cases k c with
  | none => rfl
  | some w => rfl
theorem step_add (b c : Cel) : ∀ (ks : List (Cel → Option Wr)) (ns : List Nod), Apart ks → stepW ks b c ns = addC ks b c ns
 | [], ns, _ => by
  have e : stepW [] b c ns = if c.r = 10 then ns ++ [brN] else if b.r ≠ 10 ∧ (0 : Nat) = 0 ∧ (0 : Nat) = 0 then lastN (fun n => .mk n.tag n.attrs (n.text ++ txtL [c.r]) n.kids) ns else ns ++ [txtN [c.r]] := rfl
  rw [e]
  have e2 : addC [] b c ns = if textR b c = true then lastN (fun n => .mk n.tag n.attrs (n.text ++ txtL [c.r]) n.kids) ns else ns ++ [cellN c] := rfl
  rw [e2]
  unfold cellN
  by_cases hc : c.r = 10
  ·have ht : textR b c = false := by unfold textR; simp [hc]
   rw [if_pos hc, ht, if_pos hc]
   rfl
  ·rw [if_neg hc, if_neg hc]
   by_cases hb : b.r = 10
   ·have ht : textR b c = false := by unfold textR; simp [hb]
    rw [if_neg (fun h => h.1 hb), ht]
    rfl
   ·have ht : textR b c = true := by unfold textR; simp [hb, hc]
    rw [if_pos ⟨hb, rfl, rfl⟩, ht]
    rfl
 | k :: ks, ns, ha => by
  unfold addC
  by_cases e : k b = k c
  ·rw [if_pos e]
   unfold stepW
   rw [wraps_cons, wraps_cons, e]
   cases hc : k c with
   | none =>
    have := step_add b c ks ns ha.2
    unfold stepW at this
    exact this
   | some w =>
    simp only
    have hf : (fun n : Nod => Nod.mk n.tag n.attrs n.text (addC ks b c n.kids)) = fun n => Nod.mk n.tag n.attrs n.text (stepW ks b c n.kids) := by
     funext n; rw [step_add b c ks n.kids ha.2]
    rw [hf]
    have hs : sharedW (w :: wrapsOf ks b) (w :: wrapsOf ks c) = sharedW (wrapsOf ks b) (wrapsOf ks c) + 1 := by rw [sharedW, if_pos rfl]
    rw [hs]
    unfold stepW
    simp only [List.length_cons, Nat.add_right_cancel_iff]
    by_cases h1 : c.r = 10
    ·simp only [if_pos h1, putW, List.tail_cons]
    ·simp only [if_neg h1]
     by_cases h2 : b.r ≠ 10 ∧ sharedW (wrapsOf ks b) (wrapsOf ks c) = (wrapsOf ks c).length ∧ sharedW (wrapsOf ks b) (wrapsOf ks c) = (wrapsOf ks b).length
     ·simp only [if_pos h2, growW]
     ·simp only [if_neg h2, putW, List.tail_cons]
  ·rw [if_neg e]
   have hs := shared_zero ha e
   have e3 : stepW (k :: ks) b c ns = if c.r = 10 then putW ns (wrapsOf (k :: ks) c) brN (sharedW (wrapsOf (k :: ks) b) (wrapsOf (k :: ks) c)) else if b.r ≠ 10 ∧ sharedW (wrapsOf (k :: ks) b) (wrapsOf (k :: ks) c) = (wrapsOf (k :: ks) c).length ∧ sharedW (wrapsOf (k :: ks) b) (wrapsOf (k :: ks) c) = (wrapsOf (k :: ks) b).length then growW (wrapsOf (k :: ks) c).length c.r ns else putW ns (wrapsOf (k :: ks) c) (txtN [c.r]) (sharedW (wrapsOf (k :: ks) b) (wrapsOf (k :: ks) c)) := rfl
   rw [e3, hs]
   have hne : ¬ (0 = (wrapsOf (k :: ks) c).length ∧ 0 = (wrapsOf (k :: ks) b).length) := by
    rintro ⟨h1, h2⟩
    have h1 := List.length_eq_zero_iff.1 h1.symm
    have h2 := List.length_eq_zero_iff.1 h2.symm
    rw [wraps_cons] at h1 h2
    cases hb : k b with
    | some w => rw [hb] at h2; cases h2
    | none =>
     cases hc : k c with
     | some w => rw [hc] at h1; cases h1
     | none => exact e (hb.trans hc.symm)
   have hgs := gr_single (k :: ks) c
   unfold gr at hgs
   rw [parts_one] at hgs
   simp only [List.flatMap_cons, List.flatMap_nil, List.append_nil, List.headD_cons] at hgs
   rw [hgs]
   simp only [putW]
   unfold cellN
   by_cases h1 : c.r = 10
   ·rw [if_pos h1, if_pos h1]
   ·rw [if_neg h1, if_neg h1, if_neg (fun h => hne h.2)]
def rowW (ks : List (Cel → Option Wr)) : List Cel → List Nod
 | [] => []
 | c :: l => (l.foldl (fun (x : List Nod × Cel) d => (stepW ks x.2 d x.1, d)) ([nestW (wrapsOf ks c) (cellN c)], c)).1
theorem row_is {ks : List (Cel → Option Wr)} (ha : Apart ks) (c : Cel) : ∀ (l m : List Cel) (b : Cel), m.getLast? = some b → (l.foldl (fun (x : List Nod × Cel) d => (stepW ks x.2 d x.1, d)) (gr ks m, b)).1 = gr ks (m ++ l)
 | [], m, b, _ => by simp
 | d :: l, m, b, hb => by
  rw [List.foldl_cons]
  simp only
  rw [step_add b d ks _ ha, ← gr_snoc b d ks m hb, row_is ha c l (m ++ [d]) d (by simp)]
  rw [List.append_assoc, List.singleton_append]
theorem rowW_is {ks : List (Cel → Option Wr)} (ha : Apart ks) (l : List Cel) : rowW ks l = gr ks l := by
 cases l with
 | nil =>
  unfold rowW
  cases ks with
  | nil => unfold gr leavesN; rw [parts_nil]; rfl
  | cons k ks => unfold gr; rw [parts_nil]; rfl
 | cons c l =>
  have := row_is ha c l [c] c rfl
  rw [gr_single] at this
  exact this
end Go.Proofs.Qw
namespace Go.Proofs.Qw
open Go.RowKit
def wayL (l : Lin) : List Int := List.replicate (min l.quote.toNat 6) 6 ++ l.lists.map (fun k => if k = 0 then 7 else 8)
def stepL (lv : Nat) (l : Lin) : Int := (wayL l).getD lv 0
def stepR (lv : Nat) (a b : Lin) : Bool := decide (stepL lv a ≠ 0) && decide (stepL lv a = stepL lv b)
def lvHref (c : Cel) : Option Wr := if c.href = [] then none else some (10, hrefA c.href)
def lineN (row : List Cel → List Nod) (l : Lin) : Nod := .mk (if l.lists ≠ [] then 9 else l.kind + 2) [] [] (row l.cells)
def hostL (leaf : Lin → Nod) : Nat → Nat → List Lin → List Nod
 | 0, _, d => d.map leaf
 | n + 1, lv, d => (partsBy (stepR lv) d).flatMap fun p => if stepL lv (p.headD default) ≠ 0 then [.mk (stepL lv (p.headD default)) [] [] (hostL leaf n (lv + 1) p)] else [leaf (p.headD default)]
def tagW (w : List Int) : List Wr := w.map fun t => (t, [])
def addL (leaf : Lin → Nod) : Nat → Nat → Lin → Lin → List Nod → List Nod
 | 0, _, _, l, ns => ns ++ [leaf l]
 | n + 1, lv, b, l, ns => if stepR lv b l = true then lastN (fun x => .mk x.tag x.attrs x.text (addL leaf n (lv + 1) b l x.kids)) ns else ns ++ [nestW (tagW ((wayL l).drop lv)) (leaf l)]
theorem stepR_symm (lv : Nat) (a b : Lin) : stepR lv a b = stepR lv b a := by
 unfold stepR
 rw [Bool.eq_iff_iff]
 simp only [Bool.and_eq_true, decide_eq_true_eq]
 exact ⟨fun ⟨h1, h2⟩ => ⟨h2 ▸ h1, h2.symm⟩, fun ⟨h1, h2⟩ => ⟨h2 ▸ h1, h2.symm⟩⟩
theorem stepR_trans (lv : Nat) (a b c : Lin) (h1 : stepR lv a b = true) (h2 : stepR lv b c = true) : stepR lv a c = true := by
 unfold stepR at *
 simp only [Bool.and_eq_true, decide_eq_true_eq] at *
 exact ⟨h1.1, h1.2.trans h2.2⟩
theorem step_all {lv : Nat} : ∀ (n : Nat) (l : List Lin), l.length ≤ n → ∀ p ∈ partsBy (stepR lv) l, ∀ x ∈ p, stepL lv x = stepL lv (p.headD default)
 | 0, l, hl => by
  have : l = [] := List.length_eq_zero_iff.1 (by omega)
  subst this
  rw [parts_nil]; simp
 | n + 1, [], _ => by rw [parts_nil]; simp
 | n + 1, a :: l, hl => by
  rw [parts_cons]
  intro p hp
  rcases List.mem_cons.1 hp with rfl | h
  ·intro x hx
   rcases List.mem_cons.1 hx with rfl | hx
   ·rfl
   ·have := List.all_takeWhile (l := l) (p := stepR lv a)
    rw [List.all_eq_true] at this
    have := this x hx
    unfold stepR at this
    simp only [Bool.and_eq_true, decide_eq_true_eq] at this
    exact this.2.symm
  ·exact step_all n _ (by have := (List.dropWhile_suffix (l := l) (stepR lv a)).length_le; simp at hl; omega) p h
theorem way_pos {l : Lin} {t : Int} (h : t ∈ wayL l) : t ≠ 0 := by
 unfold wayL at h
 rcases List.mem_append.1 h with h | h
 ·rw [List.eq_of_mem_replicate h]; decide
 ·obtain ⟨k, _, rfl⟩ := List.mem_map.1 h
  split <;> decide
theorem stepL_some {l : Lin} {lv : Nat} (h : stepL lv l ≠ 0) : lv < (wayL l).length ∧ (wayL l).drop lv = stepL lv l :: (wayL l).drop (lv + 1) := by
 have hl : lv < (wayL l).length := by
  rcases Nat.lt_or_ge lv (wayL l).length with h1 | h1
  ·exact h1
  ·exfalso; apply h; unfold stepL; rw [List.getD_eq_getElem?_getD, List.getElem?_eq_none h1]; rfl
 refine ⟨hl, ?_⟩
 rw [List.drop_eq_getElem_cons hl]
 unfold stepL
 rw [List.getD_eq_getElem?_getD, List.getElem?_eq_getElem hl]
 rfl
theorem stepL_none {l : Lin} {lv : Nat} (h : stepL lv l = 0) : (wayL l).drop lv = [] := by
 rcases Nat.lt_or_ge lv (wayL l).length with h1 | h1
 ·exfalso
  unfold stepL at h
  rw [List.getD_eq_getElem?_getD, List.getElem?_eq_getElem h1] at h
  exact way_pos (List.getElem_mem h1) h
 ·exact List.drop_eq_nil_of_le h1
theorem hostL_single (leaf : Lin → Nod) : ∀ (n lv : Nat) (l : Lin), (wayL l).length < lv + n → hostL leaf n lv [l] = [nestW (tagW ((wayL l).drop lv)) (leaf l)]
 | 0, lv, l, h => by
  rw [List.drop_eq_nil_of_le (by omega)]
  rfl
 | n + 1, lv, l, h => by
  have e : hostL leaf (n + 1) lv [l] = if stepL lv l ≠ 0 then [.mk (stepL lv l) [] [] (hostL leaf n (lv + 1) [l])] else [leaf l] := by
   rw [hostL, parts_one, List.flatMap_cons, List.flatMap_nil, List.append_nil]
   rfl
  rw [e]
  by_cases h0 : stepL lv l = 0
  ·rw [if_neg (fun h => h h0), stepL_none h0]
   rfl
  ·rw [if_pos h0, (stepL_some h0).2, hostL_single leaf n (lv + 1) l (by omega)]
   rfl
theorem hostL_snoc (leaf : Lin → Nod) (b l : Lin) : ∀ (n lv : Nat) (d : List Lin), (wayL l).length < lv + n → d.getLast? = some b → hostL leaf n lv (d ++ [l]) = addL leaf n lv b l (hostL leaf n lv d)
 | 0, lv, d, _, _ => by unfold hostL addL; simp
 | n + 1, lv, d, hn, hb => by
  obtain ⟨gs, g, h1, h2, h3⟩ := parts_snoc (stepR_symm lv) (stepR_trans lv) l _ d b (Nat.le_refl _) hb
  have hg : g ≠ [] := by rintro rfl; cases h2
  have hk : stepL lv b = stepL lv (g.headD default) := step_all _ d (Nat.le_refl _) g (by rw [h1]; simp) b (List.mem_of_getLast? h2)
  unfold hostL addL
  rw [h1, h3]
  by_cases e : stepR lv b l = true
  ·have e2 : stepL lv b ≠ 0 := by unfold stepR at e; simp only [Bool.and_eq_true, decide_eq_true_eq] at e; exact e.1
   rw [if_pos e, if_pos e, List.flatMap_append, List.flatMap_append, List.flatMap_cons, List.flatMap_nil, List.append_nil, List.flatMap_cons, List.flatMap_nil, List.append_nil, head_append hg, ← hk, if_pos e2, if_pos e2, lastN_append _ _ (by simp), lastN_one, hostL_snoc leaf b l n (lv + 1) g (by omega) h2]
   rfl
  ·rw [if_neg e, if_neg e, List.flatMap_append]
   congr 1
   have := hostL_single leaf (n + 1) lv l (by omega)
   unfold hostL at this
   rw [parts_one] at this
   exact this
theorem shared_step {lv : Nat} {b l : Lin} (h : stepR lv b l = true) : sharedW (tagW ((wayL b).drop lv)) (tagW ((wayL l).drop lv)) = sharedW (tagW ((wayL b).drop (lv + 1))) (tagW ((wayL l).drop (lv + 1))) + 1 := by
 unfold stepR at h
 simp only [Bool.and_eq_true, decide_eq_true_eq] at h
 have h1 := (stepL_some h.1).2
 have h2 := (stepL_some (l := l) (lv := lv) (fun e => h.1 (h.2.trans e))).2
 conv => lhs; rw [h1, h2]
 simp only [tagW, List.map_cons]
 rw [sharedW, if_pos (by rw [h.2])]
theorem shared_stop {lv : Nat} {b l : Lin} (h : ¬ stepR lv b l = true) : sharedW (tagW ((wayL b).drop lv)) (tagW ((wayL l).drop lv)) = 0 := by
 unfold stepR at h
 simp only [Bool.and_eq_true, decide_eq_true_eq, not_and] at h
 by_cases hb : stepL lv b = 0
 ·rw [stepL_none hb]
  simp only [tagW, List.map_nil]
  unfold sharedW
  rfl
 ·by_cases hl : stepL lv l = 0
  ·rw [stepL_none hl]
   simp only [tagW, List.map_nil]
   cases (wayL b).drop lv <;> rfl
  ·rw [(stepL_some hb).2, (stepL_some hl).2]
   simp only [tagW, List.map_cons]
   rw [sharedW, if_neg (fun e => h hb (by injection e))]
theorem put_addL (leaf : Lin → Nod) (b l : Lin) : ∀ (n lv : Nat) (ns : List Nod), (wayL l).length < lv + n → putW ns (tagW ((wayL l).drop lv)) (leaf l) (sharedW (tagW ((wayL b).drop lv)) (tagW ((wayL l).drop lv))) = addL leaf n lv b l ns
 | 0, lv, ns, h => by
  rw [List.drop_eq_nil_of_le (by omega : (wayL l).length ≤ lv)]
  have : sharedW (tagW ((wayL b).drop lv)) (tagW []) = 0 := by cases (wayL b).drop lv <;> rfl
  rw [this]
  rfl
 | n + 1, lv, ns, h => by
  unfold addL
  by_cases e : stepR lv b l = true
  ·rw [if_pos e, shared_step e, putW]
   congr 1
   funext x
   have e2 : stepL lv l ≠ 0 := by unfold stepR at e; simp only [Bool.and_eq_true, decide_eq_true_eq] at e; exact e.2 ▸ e.1
   rw [(stepL_some e2).2]
   simp only [tagW, List.map_cons, List.tail_cons]
   have := put_addL leaf b l n (lv + 1) x.kids (by omega)
   simp only [tagW] at this
   rw [this]
  ·rw [if_neg e, shared_stop e]
   rfl
end Go.Proofs.Qw
namespace Go.Proofs.Qw
open Go.RowKit Go.Proofs.YteognfhemmogpaaGreatDoor
def cellsOf (l : List Int) (b : Int) (h : List UInt8) : List Cel := l.map fun c => ⟨c, b, h⟩
end Go.Proofs.Qw
namespace Go.Proofs.Qw
open Go.RowKit Go.Proofs.YteognfhemmogpaaGreatDoor
theorem byte_nat {x : Int} (h0 : 0 ≤ x) (h1 : x < 256) : (x.toNat.toUInt8).toNat = x.toNat := by
 rw [UInt8.toNat_ofNat']
 omega
theorem decode_encode {r : Int} (h : Lib.validRune r = true) (t : List UInt8) : Lib.decodeL (Lib.encodeRune r ++ t) = (r.toNat, (Lib.encodeRune r).length) := by
 unfold Lib.validRune at h
 rw [decide_eq_true_eq] at h
 rw [Lib.decodeL_N]
 unfold Lib.encodeRune
 by_cases h1 : r ≤ 127
 ·rw [Lib.encodeRuneZ_one (by omega) h1]
  simp only [List.map_cons, List.map_nil, List.singleton_append, List.length_cons, List.length_nil, List.getD_cons_zero]
  rw [byte_nat (by omega) (by omega)]
  unfold Lib.decodeN
  rw [if_pos (by omega)]
 by_cases h2 : r ≤ 2047
 ·rw [Lib.encodeRuneZ_two (by omega) h2]
  simp only [List.map_cons, List.map_nil, List.cons_append, List.nil_append, List.length_cons, List.length_nil, List.getD_cons_zero, List.getD_cons_succ]
  rw [byte_nat (by omega) (by omega), byte_nat (by omega) (by omega)]
  unfold Lib.decodeN
  rw [if_neg (by omega), if_pos (by omega), if_pos (by omega)]
  congr 1
  omega
 by_cases h3 : r ≤ 65535
 ·rw [Lib.encodeRuneZ_three (by omega)]
  simp only [List.map_cons, List.map_nil, List.cons_append, List.nil_append, List.length_cons, List.length_nil, List.getD_cons_zero, List.getD_cons_succ]
  rw [byte_nat (by omega) (by omega), byte_nat (by omega) (by omega), byte_nat (by omega) (by omega)]
  unfold Lib.decodeN
  rw [if_neg (by omega), if_neg (by omega), if_pos (by omega), if_pos (by omega)]
  congr 1
  omega
 ·rw [Lib.encodeRuneZ_four (by omega) (by omega)]
  simp only [List.map_cons, List.map_nil, List.cons_append, List.nil_append, List.length_cons, List.length_nil, List.getD_cons_zero, List.getD_cons_succ]
  rw [byte_nat (by omega) (by omega), byte_nat (by omega) (by omega), byte_nat (by omega) (by omega), byte_nat (by omega) (by omega)]
  unfold Lib.decodeN
  rw [if_neg (by omega), if_neg (by omega), if_neg (by omega), if_pos (by omega), if_pos (by omega)]
  congr 1
  omega
theorem encode_pos (r : Int) : 1 ≤ (Lib.encodeRune r).length := by
 unfold Lib.encodeRune
 rw [List.length_map]
 exact (Lib.encodeRuneZ_length r).1
theorem runesL_of : ∀ (l : List Int) (f : Nat), (∀ c ∈ l, Lib.validRune c = true) → (l.flatMap Lib.encodeRune).length ≤ f → runesL f (l.flatMap Lib.encodeRune) = l
 | [], f, _, _ => by
  cases f with
  | zero => rfl
  | succ f => rw [List.flatMap_nil, runesL, if_pos rfl]
 | c :: l, f, hv, hf => by
  have hp := encode_pos c
  have hc := hv c (by simp)
  rw [List.flatMap_cons] at hf ⊢
  rw [List.length_append] at hf
  cases f with
  | zero => omega
  | succ f =>
   have hne : Lib.encodeRune c ++ l.flatMap Lib.encodeRune ≠ [] := by
    intro e
    rw [(List.append_eq_nil_iff.1 e).1] at hp
    simp at hp
   rw [runesL, if_neg hne, decode_encode hc, List.drop_left, runesL_of l f (fun x hx => hv x (by simp [hx])) (by omega)]
   congr 1
   unfold Lib.validRune at hc
   rw [decide_eq_true_eq] at hc
   simp only
   omega
theorem runesB_of (l : List Int) (hv : ∀ c ∈ l, Lib.validRune c = true) : runesB ⟨(l.flatMap Lib.encodeRune).toArray⟩ = l := by
 unfold runesB
 rw [runesGo_eq]
 simp only [List.drop_zero]
 exact runesL_of l _ hv (by simp [ByteArray.size])
theorem mayR_valid {c : Int} (h : mayR c = true) : Lib.validRune c = true := by
 unfold mayR at h
 rw [decide_eq_true_eq] at h
 unfold classF at h
 cases hv : Lib.validRune c with
 | true => rfl
 | false => rw [if_pos hv] at h; omega
end Go.Proofs.Qw
namespace Go.Proofs.Qw
def normal : List UInt8 := [110, 111, 114, 109, 97, 108]
end Go.Proofs.Qw
namespace Go.Proofs.Qw
def en (v : BitVec 64) : Int := IntKind.i64.wrap (v.toNat : Int)
end Go.Proofs.Qw
namespace Go.Proofs.Qw
open Go.RowKit
def wrap1 (b k tag : Int) (o : List Nod) : List Nod := if bits .and .i64 b k = 0 then o else [.mk tag [] [] o]
def wrapB (b : Int) (kids : List Nod) : List Nod := wrap1 b 1 11 (wrap1 b 2 12 (wrap1 b 4 13 (wrap1 b 8 14 kids)))
def wrapN (b : Int) (href : List UInt8) (kids : List Nod) : List Nod := if href = [] then wrapB b kids else [.mk 10 (hrefA href) [] (wrapB b kids)]
theorem and_bit (v : BitVec 64) (m : BitVec 64) (j : Nat) (hj : j < 64) (hm : ∀ i (hi : i < 64), m[i] = decide (i = j)) : (v &&& m = 0#64 ↔ v[j] = false) := by
 constructor
 ·intro h
  have := congrArg (fun x : BitVec 64 => x[j]) h
  simp only [BitVec.getElem_and, hm j hj, BitVec.getElem_zero] at this
  simpa using this
 ·intro h
  apply BitVec.eq_of_getElem_eq
  intro i hi
  simp only [BitVec.getElem_and, hm i hi, BitVec.getElem_zero]
  by_cases e : i = j
  ·subst e; simp [h]
  ·simp [e]
end Go.Proofs.Qw
namespace Go.Proofs.Qw
open Go.RowKit
def tagC (t : Int) : Int := if t < 0 ∨ 16 < t then 0 else if t = 0 then 1 else if t = 1 ∨ t = 6 ∨ t = 7 ∨ t = 8 then 2 else if (2 ≤ t ∧ t ≤ 5) ∨ t = 9 then 3 else if t = 16 then 5 else 4
structure Aro where
 quote : Int
 lists : List Int
 kind : Int
 bits : Int
 href : List UInt8
structure VSt where
 lines : List Lin
 cells : Nat
 opn : Bool
 spot : Int
 pos : Ps
def frameA (a : Aro) : Lin := ⟨a.quote, a.lists, if a.lists = [] then a.kind else 0, []⟩
def beginV (a : Aro) (s : VSt) : VSt := ⟨s.lines ++ [frameA a], s.cells, true, if s.spot = 1 then 2 else s.spot, if s.spot = 1 then ⟨s.lines.length, 0⟩ else s.pos⟩
def lastD (f : Lin → Lin) (d : List Lin) : List Lin := d.dropLast ++ (d.getLast?.map f).toList
def addV (a : Aro) (c : Int) (s : VSt) : VSt := { s with lines := lastD (fun l => { l with cells := l.cells ++ [⟨c, a.bits, a.href⟩] }) s.lines, cells := s.cells + 1 }
def putV (a : Aro) (c : Int) (s : VSt) : VSt := addV a c (if s.opn = true then s else beginV a s)
end Go.Proofs.Qw
namespace Go.Proofs.Qw
open Go.RowKit
theorem runes_back (l : List Int) (h : ∀ c ∈ l, mayR c = true) : runesB ⟨(txtL l).toArray⟩ = l := runesB_of l (fun c hc => mayR_valid (h c hc))
def lvBit (j : Nat) (c : Cel) : Option Wr := if bits .and .i64 c.bits (2 ^ j) = 0 then none else some (11 + (j : Int), [])
def rowK : List (Cel → Option Wr) := [lvHref, lvBit 0, lvBit 1, lvBit 2, lvBit 3]
theorem row_apart : Apart rowK := by
 have hb : ∀ (i j : Nat) (_ : i ≠ j) (x y : Cel) (w w' : Wr), lvBit i x = some w → lvBit j y = some w' → w ≠ w' := fun i j hij x y w w' h1 h2 e => by
  unfold lvBit at h1 h2
  split at h1
  ·cases h1
  split at h2
  ·cases h2
  injection h1 with h1
  injection h2 with h2
  rw [← h1, ← h2] at e
  injection e with e _
  omega
 have hh : ∀ (j : Nat) (x y : Cel) (w w' : Wr), lvHref x = some w → lvBit j y = some w' → w ≠ w' := fun j x y w w' h1 h2 e => by
  unfold lvHref at h1
  unfold lvBit at h2
  split at h1
  ·cases h1
  split at h2
  ·cases h2
  injection h1 with h1
  injection h2 with h2
  rw [← h1, ← h2] at e
  injection e with e _
  omega
 unfold rowK
 refine ⟨?_, ?_, ?_, ?_, ?_, trivial⟩
 ·intro k' hk x y w w' h1 h2
  simp only [List.mem_cons, List.not_mem_nil, or_false] at hk
  rcases hk with rfl | rfl | rfl | rfl <;> exact hh _ x y w w' h1 h2
 ·intro k' hk x y w w' h1 h2
  simp only [List.mem_cons, List.not_mem_nil, or_false] at hk
  rcases hk with rfl | rfl | rfl <;> exact hb _ _ (by decide) x y w w' h1 h2
 ·intro k' hk x y w w' h1 h2
  simp only [List.mem_cons, List.not_mem_nil, or_false] at hk
  rcases hk with rfl | rfl <;> exact hb _ _ (by decide) x y w w' h1 h2
 ·intro k' hk x y w w' h1 h2
  simp only [List.mem_cons, List.not_mem_nil, or_false] at hk
  rcases hk with rfl
  exact hb _ _ (by decide) x y w w' h1 h2
 ·intro k' hk
  cases hk
def putC (a : Aro) (s : VSt) (c : Cel) : VSt := putV { a with bits := c.bits, href := c.href } c.r s
def CelOk (c : Cel) : Prop := (mayR c.r = true ∨ c.r = 10) ∧ 0 ≤ c.bits ∧ c.bits ≤ 15 ∧ (c.href = [] ∨ targetF c.href = true)
theorem parts_sub {α : Type} (r : α → α → Bool) (l : List α) {p : List α} (hp : p ∈ partsBy r l) {x : α} (hx : x ∈ p) : x ∈ l := by
 rw [← parts_flat r _ l (Nat.le_refl _)]
 exact List.mem_flatten.2 ⟨p, hp, hx⟩
theorem part_text : ∀ (n : Nat) (l : List Cel), l.length ≤ n → ∀ p ∈ partsBy textR l, (p = [p.headD default] ∧ (p.headD default).r = 10) ∨ (∀ c ∈ p, c.r ≠ 10)
 | 0, l, hl => by
  have : l = [] := List.length_eq_zero_iff.1 (by omega)
  subst this
  rw [parts_nil]; simp
 | n + 1, [], _ => by rw [parts_nil]; simp
 | n + 1, a :: l, hl => by
  rw [parts_cons]
  intro p hp
  rcases List.mem_cons.1 hp with rfl | h
  ·by_cases ha : a.r = 10
   ·have : l.takeWhile (textR a) = [] := by
     cases l with
     | nil => rfl
     | cons y ys => rw [List.takeWhile_cons_of_neg (by unfold textR; simp [ha])]
    rw [this]
    exact .inl ⟨rfl, ha⟩
   ·right
    intro c hc
    rcases List.mem_cons.1 hc with rfl | hc
    ·exact ha
    ·have := List.all_takeWhile (l := l) (p := textR a)
     rw [List.all_eq_true] at this
     have := this c hc
     unfold textR at this
     simp at this
     exact this.2
  ·exact part_text n _ (by have := (List.dropWhile_suffix (l := l) (textR a)).length_le; simp at hl; omega) p h
def bitsK : Nat → List (Cel → Option Wr)
 | 0 => []
 | n + 1 => lvBit (3 - n) :: bitsK n
end Go.Proofs.Qw
namespace Go.Proofs.Qw
open Go.RowKit
def runTo {α : Type} (r : α → α → Bool) (a : α) (d : List α) (i : Nat) : Nat := i + ((d.drop i).takeWhile (r a)).length
theorem runTo_yes {α : Type} {r : α → α → Bool} {a x : α} {d : List α} {i : Nat} (h : d.drop i = x :: d.drop (i + 1)) (hr : r a x = true) : runTo r a d i = runTo r a d (i + 1) := by
 unfold runTo
 rw [h, List.takeWhile_cons_of_pos hr, List.length_cons]
 omega
theorem runTo_no {α : Type} {r : α → α → Bool} {a x : α} {d : List α} {i : Nat} (h : d.drop i = x :: d.drop (i + 1)) (hr : r a x = false) : runTo r a d i = i := by
 unfold runTo
 rw [h, List.takeWhile_cons_of_neg (by simp [hr])]
 rfl
theorem runTo_end {α : Type} {r : α → α → Bool} {a : α} {d : List α} : runTo r a d d.length = d.length := by
 unfold runTo
 rw [List.drop_length]
 rfl
theorem drop_while {α : Type} {p : α → Bool} : ∀ (l : List α), l.drop (l.takeWhile p).length = l.dropWhile p
 | [] => rfl
 | x :: l => by
  by_cases h : p x = true
  ·rw [List.takeWhile_cons_of_pos h, List.dropWhile_cons_of_pos h, List.length_cons, List.drop_succ_cons, drop_while l]
  ·rw [List.takeWhile_cons_of_neg h, List.dropWhile_cons_of_neg h]
   rfl
theorem take_while {α : Type} {p : α → Bool} : ∀ (l : List α), l.take (l.takeWhile p).length = l.takeWhile p
 | [] => rfl
 | x :: l => by
  by_cases h : p x = true
  ·rw [List.takeWhile_cons_of_pos h, List.length_cons, List.take_succ_cons, take_while l]
  ·rw [List.takeWhile_cons_of_neg h]
   rfl
def cutP {α : Type} (d : List α) (x : Nat × Nat) : List α := (d.drop x.1).take (x.2 - x.1)
theorem parts_cut {α : Type} {r : α → α → Bool} {a : α} {d : List α} {i : Nat} (h : d.drop i = a :: d.drop (i + 1)) : partsBy r (d.drop i) = cutP d (i, runTo r a d (i + 1)) :: partsBy r (d.drop (runTo r a d (i + 1))) := by
 rw [h, parts_cons]
 have e1 : runTo r a d (i + 1) - i = ((d.drop (i + 1)).takeWhile (r a)).length + 1 := by unfold runTo; omega
 congr 1
 ·unfold cutP
  simp only
  rw [e1, h, List.take_succ_cons, take_while]
 ·have e : d.drop (runTo r a d (i + 1)) = (d.drop (i + 1)).dropWhile (r a) := by
   unfold runTo
   have e0 : ((d.drop (i + 1)).drop ((d.drop (i + 1)).takeWhile (r a)).length) = d.drop (i + 1 + ((d.drop (i + 1)).takeWhile (r a)).length) := by rw [List.drop_drop]
   rw [← e0, drop_while]
  rw [e]
def CutOk {α : Type} (d : List α) (x : Nat × Nat) : Prop := x.1 < x.2 ∧ x.2 ≤ d.length
theorem parts_snoc2 {α : Type} {r : α → α → Bool} {a : α} {d : List α} {i : Nat} {pre : List (Nat × Nat)} (hp : pre.map (cutP d) ++ partsBy r (d.drop i) = partsBy r d) (h : d.drop i = a :: d.drop (i + 1)) :
  (pre ++ [(i, runTo r a d (i + 1))]).map (cutP d) ++ partsBy r (d.drop (runTo r a d (i + 1))) = partsBy r d := by
 rw [← hp, parts_cut (r := r) h, List.map_append, List.append_assoc]
 rfl
theorem parts_all {α : Type} {r : α → α → Bool} {d : List α} {pre : List (Nat × Nat)} (hp : pre.map (cutP d) ++ partsBy r (d.drop d.length) = partsBy r d) : pre.map (cutP d) = partsBy r d := by
 rw [← hp, List.drop_length, parts_nil, List.append_nil]
theorem cut_cons {α : Type} {r : α → α → Bool} {a : α} {d : List α} {i j : Nat} (h : d.drop i = a :: d.drop (i + 1)) (hj : runTo r a d (i + 1) = j) : cutP d (i, j) = a :: (d.drop (i + 1)).takeWhile (r a) := by
 have e := parts_cut (r := r) h
 rw [hj] at e
 have e2 : partsBy r (d.drop i) = (a :: (d.drop (i + 1)).takeWhile (r a)) :: partsBy r ((d.drop (i + 1)).dropWhile (r a)) := by
  conv => lhs; rw [h]
  rw [parts_cons]
 rw [e2] at e
 exact (List.cons.inj e).1.symm
def CutR {α : Type} (r : α → α → Bool) (d : List α) (x : Nat × Nat) : Prop := CutOk d x ∧ ∀ a l, cutP d x = a :: l → ∀ y ∈ l, r a y = true
theorem cut_run {α : Type} {r : α → α → Bool} {a : α} {d : List α} {i j : Nat} (h : d.drop i = a :: d.drop (i + 1)) (hj : runTo r a d (i + 1) = j) : ∀ a' l', cutP d (i, j) = a' :: l' → ∀ y ∈ l', r a' y = true := by
 intro a' l' e y hy
 rw [cut_cons h hj] at e
 cases e
 have := List.all_takeWhile (l := d.drop (i + 1)) (p := r a)
 rw [List.all_eq_true] at this
 exact this y hy
abbrev PartY {α : Type} (r : α → α → Bool) (d : List α) : Type := { x : Nat × Nat // CutR r d x }
end Go.Proofs.Qw
namespace Go.Proofs.Qw
open Go.RowKit
theorem bit_or (v : BitVec 64) (m : BitVec 64) (j : Nat) (hj : j < 64) (hm : ∀ i (hi : i < 64), m[i] = decide (i = j)) : v &&& m = 0#64 ∨ v &&& m = m := by
 cases h : v[j] with
 | false => exact .inl ((and_bit v m j hj hm).2 h)
 | true =>
  refine .inr (BitVec.eq_of_getElem_eq fun i hi => ?_)
  simp only [BitVec.getElem_and, hm i hi]
  by_cases e : i = j
  ·subst e; simp [h]
  ·simp [e]
theorem bit_two : ∀ (j : Nat), j ≤ 3 → ∀ x : Int, bits .and .i64 x (2 ^ j) = 0 ∨ bits .and .i64 x (2 ^ j) = 2 ^ j
 | 0, _, x => by
  rcases bit_or (BitVec.ofInt 64 x) 1#64 0 (by decide) (by decide) with h | h
  ·exact .inl (by show en (BitVec.ofInt 64 x &&& 1#64) = 0; rw [h]; decide +kernel)
  ·exact .inr (by show en (BitVec.ofInt 64 x &&& 1#64) = 1; rw [h]; decide +kernel)
 | 1, _, x => by
  rcases bit_or (BitVec.ofInt 64 x) 2#64 1 (by decide) (by decide) with h | h
  ·exact .inl (by show en (BitVec.ofInt 64 x &&& 2#64) = 0; rw [h]; decide +kernel)
  ·exact .inr (by show en (BitVec.ofInt 64 x &&& 2#64) = 2; rw [h]; decide +kernel)
 | 2, _, x => by
  rcases bit_or (BitVec.ofInt 64 x) 4#64 2 (by decide) (by decide) with h | h
  ·exact .inl (by show en (BitVec.ofInt 64 x &&& 4#64) = 0; rw [h]; decide +kernel)
  ·exact .inr (by show en (BitVec.ofInt 64 x &&& 4#64) = 4; rw [h]; decide +kernel)
 | 3, _, x => by
  rcases bit_or (BitVec.ofInt 64 x) 8#64 3 (by decide) (by decide) with h | h
  ·exact .inl (by show en (BitVec.ofInt 64 x &&& 8#64) = 0; rw [h]; decide +kernel)
  ·exact .inr (by show en (BitVec.ofInt 64 x &&& 8#64) = 8; rw [h]; decide +kernel)
 | n + 4, h, _ => by omega
theorem two_ne (j : Nat) : (2 : Int) ^ j ≠ 0 := by
 have : (0 : Int) < 2 ^ j := by exact Int.pow_pos (by decide)
 omega
def bitR (j : Nat) (a b : Cel) : Bool := decide (lvBit j a = lvBit j b)
def hrefR (a b : Cel) : Bool := decide (lvHref a = lvHref b)
theorem bitR_is {j : Nat} (hj : j ≤ 3) (a b : Cel) : bitR j a b = (bits .and .i64 a.bits (2 ^ j) == bits .and .i64 b.bits (2 ^ j)) := by
 unfold bitR lvBit
 rcases bit_two j hj a.bits with h1 | h1 <;> rcases bit_two j hj b.bits with h2 | h2 <;> rw [h1, h2] <;> simp [two_ne j, Ne.symm (two_ne j)]
theorem hrefR_is (a b : Cel) : hrefR a b = (a.href == b.href) := by
 unfold hrefR
 by_cases h : a.href = b.href
 ·have e : lvHref a = lvHref b := by unfold lvHref; rw [h]
  rw [decide_eq_true e, h]
  simp
 ·have e : lvHref a ≠ lvHref b := fun e => h (by
   unfold lvHref at e
   by_cases h1 : a.href = []
   ·by_cases h2 : b.href = []
    ·rw [h1, h2]
    ·rw [if_pos h1, if_neg h2] at e; cases e
   ·by_cases h2 : b.href = []
    ·rw [if_neg h1, if_pos h2] at e; cases e
    ·rw [if_neg h1, if_neg h2] at e
     simp only [Option.some.injEq, Prod.mk.injEq, true_and] at e
     unfold hrefA at e
     simp only [List.cons.injEq, Att.mk.injEq, true_and, and_true] at e
     exact e)
  rw [decide_eq_false e]
  symm
  simpa using h
theorem wrap_bit : ∀ (j : Nat), j ≤ 3 → ∀ (c : Cel) (kids : List Nod), wrapN (bits .and .i64 c.bits (2 ^ j)) [] kids = wrapO (lvBit j c) kids
 | 0, h, c, kids => by
  unfold wrapN lvBit wrapB wrap1
  rw [if_pos rfl]
  rcases bit_two 0 h c.bits with h1 | h1 <;> rw [h1] <;> rfl
 | 1, h, c, kids => by
  unfold wrapN lvBit wrapB wrap1
  rw [if_pos rfl]
  rcases bit_two 1 h c.bits with h1 | h1 <;> rw [h1] <;> rfl
 | 2, h, c, kids => by
  unfold wrapN lvBit wrapB wrap1
  rw [if_pos rfl]
  rcases bit_two 2 h c.bits with h1 | h1 <;> rw [h1] <;> rfl
 | 3, h, c, kids => by
  unfold wrapN lvBit wrapB wrap1
  rw [if_pos rfl]
  rcases bit_two 3 h c.bits with h1 | h1 <;> rw [h1] <;> rfl
 | n + 4, h, _, _ => by omega
theorem wrap_href (c : Cel) (kids : List Nod) : wrapN 0 c.href kids = wrapO (lvHref c) kids := by
 unfold wrapN lvHref
 by_cases h : c.href = []
 ·rw [if_pos h, if_pos h]; rfl
 ·rw [if_neg h, if_neg h]; rfl
theorem gr_bit (j n : Nat) (l : List Cel) (h : 3 - n = j) : gr (bitsK (n + 1)) l = (partsBy (bitR j) l).flatMap fun p => wrapO (lvBit j (p.headD default)) (gr (bitsK n) p) := by
 subst h
 rfl
theorem gr_href (l : List Cel) : gr rowK l = (partsBy hrefR l).flatMap fun p => wrapO (lvHref (p.headD default)) (gr (bitsK 4) p) := rfl
end Go.Proofs.Qw
namespace Go.Proofs.YteognfhemmogpaaGreatDoor
open Go.RowKit
open Go.Proofs.Qw
def CellsSaid (d : List Cel) (err : Int) (w : World) (e : Ending) (w' : World) : Prop := ∃ v', e = .returned (.tuple #[v', .int .i64 err]) ∧ CelsR true w' (fun b => w.heap.size ≤ b) v' d ∧ Below w.heap.size w w'
theorem CellsSaid.from {d : List Cel} {err : Int} {w W : World} {e : Ending} {w' : World} (h : CellsSaid d err W e w') (hb : Below w.heap.size w W) : CellsSaid d err w e w' := by
 obtain ⟨v', h1, h2, h3⟩ := h
 exact ⟨v', h1, SliceR.stable (rdOf_stable _) h2 (Keeps.refl _ _) (fun b h _ => Nat.le_trans hb.size h), below_from hb h3⟩
end Go.Proofs.YteognfhemmogpaaGreatDoor
namespace Go.Proofs.Qw
open Go.RowKit Go.Proofs.YteognfhemmogpaaGreatDoor
def setRow (C : List Cel → Nat → Nat → List Cel) (D : Doc) (x : Nat × Nat × Nat) : Doc := D.set x.1 { (D.getD x.1 default) with cells := C (D.getD x.1 default).cells x.2.1 x.2.2 }
def Alike (D E : Doc) : Prop := D.length = E.length ∧ ∀ (k : Nat) (l : Lin), D[k]? = some l → ∃ m, E[k]? = some m ∧ m.cells.length = l.cells.length
theorem Alike.refl (D : Doc) : Alike D D := ⟨rfl, fun _ l h => ⟨l, h, rfl⟩⟩
theorem Alike.trans {D E F : Doc} (h : Alike D E) (k : Alike E F) : Alike D F := ⟨h.1.trans k.1, fun i l hl => by
 obtain ⟨m, h1, h2⟩ := h.2 i l hl
 obtain ⟨n, h3, h4⟩ := k.2 i m h1
 exact ⟨n, h3, h4.trans h2⟩⟩
end Go.Proofs.Qw
namespace Go.Proofs.YteognfhemmogpaaGreatDoor
open Go.RowKit
open Go.Proofs.Qw
attribute [local go_sem] Oper.semAt_some
theorem cell_on {w : World} {p : Addr} {u : Value} (h : w.cell? p = some u) : ∀ ob, (w.alloc ob).cell? p = some u := fun _ => (World.cell?_alloc_lt _ _ _ (World.block_lt_of_cell? w p h)).trans h
end Go.Proofs.YteognfhemmogpaaGreatDoor
namespace Go.Proofs.YteognfhemmogpaaGreatDoor
open Go.RowKit
open Go.Proofs.Qw
attribute [local go_sem ↓] Go.wp_at_zero Go.wp_at_succ
theorem textR_is (a b : Cel) : textR a b = ((a.r != 10) && (b.r != 10)) := by
 unfold textR
 by_cases h1 : a.r = 10 <;> by_cases h2 : b.r = 10 <;> simp [h1, h2]
set_option maxHeartbeats 1000000 in
theorem al_leaves (x y : Cel) (w : World) : Calls Tryz.prog 101 #[.agg #[.int .i32 x.r, .int .i64 x.bits, .string ⟨x.href.toArray⟩], .agg #[.int .i32 y.r, .int .i64 y.bits, .string ⟨y.href.toArray⟩]] w fun e w' => e = .returned (.bool (textR x y)) ∧ Below w.heap.size w w' := by
 rw [textR_is]
 cases b1 : (x.r != 10)
 ·go_enter Tryz.func101, Tryz.ntmps101
  go_wp2_with fail
  go_ret
  exact ⟨by simp, ((Below.refl _ _).alloc (Nat.le_refl _) _).alloc (by simp) _⟩
 ·cases b2 : (y.r != 10)
  all_goals
   go_enter Tryz.func101, Tryz.ntmps101
   go_wp2_with fail
   go_ret
   exact ⟨by simp, ((Below.refl _ _).alloc (Nat.le_refl _) _).alloc (by simp) _⟩
set_option maxHeartbeats 1000000 in
theorem al_row (x y : Cel) (w : World) : Calls Tryz.prog 84 #[.agg #[.int .i32 x.r, .int .i64 x.bits, .string ⟨x.href.toArray⟩], .agg #[.int .i32 y.r, .int .i64 y.bits, .string ⟨y.href.toArray⟩]] w fun e w' => e = .returned (.bool (hrefR x y)) ∧ Below w.heap.size w w' := by
 rw [hrefR_is]
 cases b1 : (x.href == y.href)
 all_goals
  go_enter Tryz.func84, Tryz.ntmps84
  go_wp2_with fail
  go_ret
  exact ⟨by simp [b1], ((Below.refl _ _).alloc (Nat.le_refl _) _).alloc (by simp) _⟩
set_option maxHeartbeats 1000000 in
theorem al_bit (x y : Cel) (Bb j : Nat) (hj : j ≤ 3) (w : World) (hb : w.heap[Bb]? = some (.cells #[.int .i64 (2 ^ j)] 3)) : Calls Tryz.prog 94 #[.agg #[.int .i32 x.r, .int .i64 x.bits, .string ⟨x.href.toArray⟩], .agg #[.int .i32 y.r, .int .i64 y.bits, .string ⟨y.href.toArray⟩], .pointer (some ⟨Bb, 0, none⟩)] w fun e w' => e = .returned (.bool (bitR j x y)) ∧ Below w.heap.size w w' := by
 rw [bitR_is hj]
 obtain ⟨z, hz⟩ : ∃ z : Int, 2 ^ j = z := ⟨_, rfl⟩
 rw [hz] at hb ⊢
 obtain ⟨q, f⟩ := blk hb
 have q0 := q 0
 have r1 : ∀ ob ob', ((w.alloc ob).alloc ob').cell? ⟨Bb, 0, none⟩ = some (.int .i64 z) := fun ob ob' => cell_on (cell_on q0 ob) ob'
 clear q f hb hz
 cases b1 : (bits .and .i64 x.bits z == bits .and .i64 y.bits z)
 all_goals
  go_enter Tryz.func94, Tryz.ntmps94
  go_wp2_with fail
  go_ret
  exact ⟨by simp [b1], ((Below.refl _ _).alloc (Nat.le_refl _) _).alloc (by simp) _⟩
end Go.Proofs.YteognfhemmogpaaGreatDoor
namespace Go.Proofs.YteognfhemmogpaaGreatDoor
open Go.RowKit
open Go.Proofs.Qw
attribute [local go_sem] Oper.semAt_some
theorem rangeFunc_slotB {P : Program} {F : Fence} {n : Nat} {α : Type} {g : Operand} {ps : Array Tmp} {assign body : Code} {Q : Exit → Act → World → Prop} {a : Act} {w : World}
  (hro : F.round = none) (h1 : 1 ≤ n) {gf : Nat} {lb : Array Value} (hg : a.eval g = .func (.func gf) #[] lb) (hFg : F.fn gf) (eg : ∀ args w, (callFunc gf args).run P w = .ok (.enter gf args) w)
  {encs : α → Array Value} {n₀ base top : Nat} {S Sp : List α → Prop} {N : Nat} {w0 : World} (hseq : SeqStopsK F (n - 1) P gf lb encs (Kb n₀ base top) S Sp N w0)
  (hn : n₀ ≤ w.heap.size) (hb0 : Below w0.heap.size w0 w) (hps : ∀ x, (encs x).size = ps.size)
  (I : List α → World → Prop) (hI : OwnFrom w.heap.size I) (h0 : I [] w) (act : α → Act)
  (hassign : ∀ (l : Nat) (pre : List α) (x : α) (W : World) (K : Act → World → Prop), I pre W → K (act x) W →
   assign.wpIn (F.inRound l) (n - 1 - 1) P (Exit.then K (fun _ _ _ => False)) { tmps := (ps.zip (encs x)).foldl (fun t (p, v) => t.setIfInBounds p v) a.tmps, defers := [] } W)
  (hbody : ∀ (l : Nat) (pre : List α) (x : α) (W : World), I pre W → pre.length < N → body.wpIn (F.inRound l) (n - 1 - 1) P (ownPostG w.heap.size (Kb n₀ base top) I (fun _ _ _ => False) (pre ++ [x]) W) (act x) W)
  (hdone : ∀ (D : Nat) (xs : List α) (W : World), w.heap.size ≤ D → S xs → I xs W → W.heap[D]? = some (.deferred (some [])) → Q .normal { a with defers := { target := .collected D, args := #[] } :: a.defers } W) :
  (Code.rangeFunc g ps assign body).wpIn F n P Q a w := by
 refine wpIn_rangeFunc_ownH hro h1 hg hFg eg hseq (fun h k => h.t k) (Kb.b hn) hb0 hps I (fun _ _ _ => False) hI (fun _ _ _ _ _ h _ _ => h) h0
  (fun x a' _ => a' = act x) (fun _ _ _ _ _ _ h _ _ => h) ?_ ?_ hdone (fun _ _ _ _ _ _ h _ => h.elim)
 ·intro l pre x W K hi hK
  exact hassign l pre x W K hi (hK _ _ (KeepsFrom.refl _ _) ⟨Below.refl _ _, fun _ _ _ _ h _ => h⟩ hi rfl)
 ·intro l pre x a' W hl hr hi ha hlt
  subst ha
  exact hbody l pre x W hi hlt
abbrev PartX {α : Type} (d : List α) : Type := { x : Nat × Nat // CutOk d x }
def partV (va : Option Addr) (vc k : Nat) (x : Nat × Nat) : Value := sliced va x.1 x.2 vc k
def partEnc {α : Type} {d : List α} (va : Option Addr) (vc k : Nat) (x : PartX d) : Array Value := #[partV va vc k x.1]
set_option maxHeartbeats 400000 in
theorem partsC_any (va : Option Addr) (vn vc g : Nat) (b : Array Value) (w : World) : Calls Tryz.prog 83 #[.slice va vn vc, .func (.func g) #[] b] w fun e w' => e = .returned (.func (.func 92) #[] #[.pointer (some ⟨w.heap.size, 0, none⟩), .pointer (some ⟨w.heap.size + 1, 0, none⟩)]) ∧ w' = (w.alloc (.cells #[.slice va vn vc] 29)).alloc (.cells #[.func (.func g) #[] b] 128) := by
 go_enter Tryz.func83, Tryz.ntmps83
 go_wp2
 go_ret
 exact ⟨by simp, rfl⟩
set_option maxRecDepth 200000 in
set_option maxHeartbeats 4000000 in
theorem parts1_leaves (n l Bl Ba base top : Nat)  (va : Option Addr) (vc : Nat) (d : List Cel) (r : Cel → Cel → Bool) (S : Nat → Prop) (J Jx : List (PartX d) → World → Prop) (w0 W : World) (hv : CelsR false w0 S (.slice va d.length vc) d) (hb0 : Below w0.heap.size w0 W)
  (hal : ∀ X, Below w0.heap.size w0 X → ∀ x y : Cel, Calls Tryz.prog 101 #[.agg #[.int .i32 x.r, .int .i64 x.bits, .string ⟨x.href.toArray⟩], .agg #[.int .i32 y.r, .int .i64 y.bits, .string ⟨y.href.toArray⟩]] X fun e X' => e = .returned (.bool (r x y)) ∧ Below X.heap.size X X')
  (hbase : base ≤ Bl ∧ base ≤ Ba) (htop : Bl < top ∧ Ba < top) (hD : W.heap[Bl]? = some (.cells #[.slice va d.length vc] 29)) (hA : W.heap[Ba]? = some (.cells #[.func (.func 101) #[] #[]] 128))
  (hlen : d.length ≤ 100000) (hJ : AbidesFrom W.heap.size J)
  (hY : ∀ (pre : List (PartX d)) (x : PartX d) W, J pre W → pre.length < d.length → YieldAt Fence.wide (n - 1) Tryz.prog l (partEnc va vc 3 x) W fun e W' =>
   (e = .returned (.bool true) ∧ J (pre ++ [x]) W' ∧ Kb w0.heap.size base top W W') ∨ (e = .returned (.bool false) ∧ Jx (pre ++ [x]) W'))
  (h0 : J [] W) :
  CallsIn Fence.wide n Tryz.prog 92 #[.func (.yield l) #[] #[], .pointer (some ⟨Bl, 0, none⟩), .pointer (some ⟨Ba, 0, none⟩)] W fun e W' => (∃ v, e = .returned v) ∧
   ((∃ ys : List (PartX d), ys.map (fun y => cutP d y.1) = partsBy r d ∧ J ys W') ∨ (∃ pre, True ∧ Jx pre W')) := by
 refine callsIn_of_wp Tryz.func92 rfl trivial ?_ rfl
 simp only [Tryz.ntmps92, List.size_toArray, List.length_cons, List.length_nil, Nat.reduceAdd, Nat.reduceSub, Array.replicate_succ, Array.replicate_zero, List.push_toArray, List.append_toArray, List.nil_append, List.cons_append]
 have hwf : ∀ f, Fence.wide.fn f := fun _ => trivial
 have hwd : Fence.wide.depth = none := rfl
 obtain ⟨va', vc', hve, hvc, hvm, hx⟩ := cels_shape hv
 cases hve
 have HX := Lib.hid hx
 have HY := Lib.hid hY
 have HAL := Lib.hid hal
 have HJA := Lib.hid hJ
 have HBK := Lib.hid (And.intro hD hA)
 unfold maxLen at hvm
 clear hx hv hY hal hJ hD hA
 refine wpIn_wide.2 ?_
 go_wp2_with fail
 go_loopw [4, 5] (fun f _ wr => ∃ (i : Nat) (pre : List (PartX d)), i ≤ d.length ∧ pre.length ≤ i ∧ f = .int .i64 i ∧ Hid ((pre.map (·.1)).map (cutP d) ++ partsBy r (d.drop i) = partsBy r d) ∧ J pre wr ∧ Below w0.heap.size w0 wr ∧ Hid (wr.heap[Bl]? = some (.cells #[.slice va d.length vc] 29) ∧ wr.heap[Ba]? = some (.cells #[.func (.func 101) #[] #[]] 128)) ∧ W.heap.size ≤ wr.heap.size)
  (fun f _ _ => d.length - (intOf f).toNat)
 case atStart => exact ⟨0, [], Nat.zero_le _, Nat.le_refl _, rfl, Lib.hid rfl, h0, hb0, HBK, Nat.le_refl _⟩
 case round =>
  obtain ⟨i, pre, hi, hpl, rfl, HP, hJs, hb1, HBL, hz1⟩ := hrel
  obtain ⟨p1, f1⟩ := blk HBL.out.1
  obtain ⟨p2, f2⟩ := blk HBL.out.2
  by_cases hlt : i < d.length
  ·obtain ⟨a, ha, hda⟩ := getOf d i hlt
   obtain ⟨bb, oo, eva, hz, c0, c1, c2⟩ := HX.out i a ha
   subst eva
   have HDA := Lib.hid hda
   have HC := Lib.hid (And.intro hz (And.intro c0 (And.intro c1 c2)))
   have HJS := Lib.hid hJs
   clear ha hda c0 c1 c2 hJs
   go_wp2_with fail
   go_loopw [5] (fun t wq => ∃ j : Nat, i + 1 ≤ j ∧ j ≤ d.length ∧ t = .int .i64 j ∧ Hid (runTo r a d j = runTo r a d (i + 1)) ∧ Hid (Below wr.heap.size wr wq)) (fun t _ => d.length - (intOf t).toNat)
   case atStart => exact ⟨i + 1, Nat.le_refl _, hlt, by go_num, Lib.hid rfl, Lib.hid (Below.refl _ _)⟩
   case round =>
    obtain ⟨j, hj1, hj2, rfl, HE, HB⟩ := hrel
    have HW0 := Lib.hid (below_from hb1 HB.out)
    obtain ⟨q1, g1⟩ := blk (heap_below HB.out HBL.out.1)
    obtain ⟨q2, g2⟩ := blk (heap_below HB.out HBL.out.2)
    have c0 := (HW0.out.cell (p := ⟨bb, oo + i * 3, none⟩) HC.out.1).trans HC.out.2.1
    have c1 := (HW0.out.cell (p := ⟨bb, oo + i * 3 + 1, none⟩) HC.out.1).trans HC.out.2.2.1
    have c2 := (HW0.out.cell (p := ⟨bb, oo + i * 3 + 2, none⟩) HC.out.1).trans HC.out.2.2.2
    have hwr : Below wr.heap.size wr wr.drew := (Below.refl _ _).drew
    have i0 : (0 : Int) ≤ (i : Int) := Int.natCast_nonneg _
    have i1 : (i : Int) < (d.length : Int) := by omega
    have hne : ¬ vc = i := by omega
    clear p1 f1 p2 f2
    by_cases hlt2 : j < d.length
    ·obtain ⟨y, hy, hdy⟩ := getOf d j hlt2
     obtain ⟨b2, o2, e2, hz2, k0, k1, k2⟩ := HX.out j y hy
     cases e2
     have HC2 := Lib.hid (And.intro k0 (And.intro k1 k2))
     have k0 := (HW0.out.cell (p := ⟨bb, oo + j * 3, none⟩) hz2).trans k0
     have k1 := (HW0.out.cell (p := ⟨bb, oo + j * 3 + 1, none⟩) hz2).trans k1
     have k2 := (HW0.out.cell (p := ⟨bb, oo + j * 3 + 2, none⟩) hz2).trans k2
     have j0 : (0 : Int) ≤ (j : Int) := Int.natCast_nonneg _
     have j1 : (j : Int) < (d.length : Int) := by omega
     have hdj : decide ((j : Int) < (d.length : Int)) = true := by simp; omega
     have HCA : Hid (∀ X, Below wr.heap.size wr X → Calls Tryz.prog 101 #[.agg #[.int .i32 a.r, .int .i64 a.bits, .string ⟨a.href.toArray⟩], .agg #[.int .i32 y.r, .int .i64 y.bits, .string ⟨y.href.toArray⟩]] X fun e X' => e = .returned (.bool (r a y)) ∧ Below X.heap.size X X') := Lib.hid fun X hX => HAL.out X (below_from HW0.out hX) a y
     have HDY := Lib.hid hdy
     clear hy hdy
     cases hr : r a y
     all_goals
      rw [hr] at HCA
      have HRR := Lib.hid hr
      clear hr
      go_wp2_with fail
      (go_region_held3 (fun w' => w'.cell? ⟨Bl, 0, none⟩ = some (.slice (some ⟨bb, oo, none⟩) d.length vc) ∧ w'.cell? ⟨Ba, 0, none⟩ = some (.func (.func 101) #[] #[]) ∧ w'.cell? ⟨bb, oo + i * 3, none⟩ = some (.int .i32 a.r) ∧ w'.cell? ⟨bb, oo + i * 3 + 1, none⟩ = some (.int .i64 a.bits) ∧ w'.cell? ⟨bb, oo + i * 3 + 2, none⟩ = some (.string ⟨a.href.toArray⟩) ∧ w'.cell? ⟨bb, oo + j * 3, none⟩ = some (.int .i32 y.r) ∧ w'.cell? ⟨bb, oo + j * 3 + 1, none⟩ = some (.int .i64 y.bits) ∧ w'.cell? ⟨bb, oo + j * 3 + 2, none⟩ = some (.string ⟨y.href.toArray⟩)) ((first | go_keep | skip)) ((go_at_call 101; (with_reducible refine (HCA.out _ (by assumption)).mono ?_); rintro e w5 ⟨rfl, hb5⟩; have hx5 : Below wr.heap.size wr w5 := below_from (by assumption) hb5; obtain ⟨r1, s1⟩ := blk (heap_below hx5 (heap_below HB.out HBL.out.1)); obtain ⟨r2, s2⟩ := blk (heap_below hx5 (heap_below HB.out HBL.out.2)); have HW5 := below_from HW0.out hx5; have m0 := (HW5.cell (p := ⟨bb, oo + i * 3, none⟩) HC.out.1).trans HC.out.2.1; have m1 := (HW5.cell (p := ⟨bb, oo + i * 3 + 1, none⟩) HC.out.1).trans HC.out.2.2.1; have m2 := (HW5.cell (p := ⟨bb, oo + i * 3 + 2, none⟩) HC.out.1).trans HC.out.2.2.2; have n0 := (HW5.cell (p := ⟨bb, oo + j * 3, none⟩) hz2).trans HC2.out.1; have n1 := (HW5.cell (p := ⟨bb, oo + j * 3 + 1, none⟩) hz2).trans HC2.out.2.1; have n2 := (HW5.cell (p := ⟨bb, oo + j * 3 + 2, none⟩) hz2).trans HC2.out.2.2)))
     ·have HE2 : Hid (runTo r a d (i + 1) = j) := Lib.hid (HE.out.symm.trans (runTo_no HDY.out HRR.out))
      have HBx := below_from HB.out hx5
      have hYY := HY.out pre ⟨(i, j), ⟨by omega, hj2⟩⟩ w5 (abides_below HJA.out HJS.out HBx) (by omega)
      have hrow : partEnc (some ⟨bb, oo, none⟩) vc 3 (⟨(i, j), ⟨by omega, hj2⟩⟩ : PartX d) = #[.slice (some ⟨bb, oo + i * 3, none⟩) (j - i) (vc - i)] := by
       unfold partEnc partV sliced
       simp only
       rw [if_neg (by omega)]
       simp only [Option.map_some, WideShapes.add_plain]
      rw [hrow] at hYY
      have HNX : Hid (∀ w7, J (pre ++ [⟨(i, j), ⟨by omega, hj2⟩⟩]) w7 → Kb w0.heap.size base top w5 w7 → ∃ (i' : Nat) (pre' : List (PartX d)), i' ≤ d.length ∧ pre'.length ≤ i' ∧ i' = j ∧ Hid ((pre'.map (·.1)).map (cutP d) ++ partsBy r (d.drop i') = partsBy r d) ∧ J pre' w7 ∧ Below w0.heap.size w0 w7 ∧ Hid (w7.heap[Bl]? = some (.cells #[.slice (some ⟨bb, oo, none⟩) d.length vc] 29) ∧ w7.heap[Ba]? = some (.cells #[.func (.func 101) #[] #[]] 128)) ∧ W.heap.size ≤ w7.heap.size) := Lib.hid fun w7 hJ7 hk7 => by
       refine ⟨j, _, hj2, by simp; omega, rfl, Lib.hid ?_, hJ7, (below_from hb1 HBx).trans hk7.below, Lib.hid ⟨hk7.cells _ _ hbase.1 htop.1 (heap_below HBx HBL.out.1) rfl, hk7.cells _ _ hbase.2 htop.2 (heap_below HBx HBL.out.2) rfl⟩, Nat.le_trans hz1 (Nat.le_trans HBx.size hk7.below.size)⟩
       have := parts_snoc2 HP.out HDA.out
       rw [HE2.out] at this
       rw [List.map_append]
       exact this
      obtain ⟨fn, tmps, assign, body, hy, hR⟩ := hYY
      go_upto_region 5 with fail
      refine (wpIn_wide (n := n)).1 ?_
      gi_wp2_with fail
      refine hR.mono ?_
      rintro e w7 (⟨rfl, hJ7, hk7⟩ | ⟨rfl, hJx7⟩)
      ·obtain ⟨i', pre', u1, u2, u3, u4, u5, u6, u7, u8⟩ := HNX.out w7 hJ7 hk7
       gi_wp2_with fail
       go_wp2_with fail
       go_roundw
       case rel => exact ⟨i', pre', u1, u2, by rw [u3], u4, u5, u6, u7, u8⟩
       case measure => simp [intOf]; omega
      ·gi_wp2_with fail
       go_wp2_with fail
       refine bodyPost_ret (results_none rfl _ _ _) rfl ?_
       exact ⟨⟨_, rfl⟩, .inr ⟨_, trivial, hJx7⟩⟩
     ·go_wp2_with fail
      go_roundw
      case rel => exact ⟨j + 1, by omega, hlt2, by go_num, Lib.hid ((runTo_yes HDY.out HRR.out).symm.trans HE.out), Lib.hid (below_from HB.out hx5)⟩
      case measure => simp [intOf]; omega
    ·have hjd : j = d.length := by omega
     have HE2 : Hid (runTo r a d (i + 1) = j) := Lib.hid (by rw [← HE.out, hjd]; exact runTo_end)
     have hdj : decide ((j : Int) < (d.length : Int)) = false := by simp; omega
     clear hjd
     go_wp2_with fail
     go_region
     have HBx := below_from HB.out hwr
     have hYY := HY.out pre ⟨(i, j), ⟨by omega, hj2⟩⟩ wr.drew (abides_below HJA.out HJS.out HBx) (by omega)
     have hrow : partEnc (some ⟨bb, oo, none⟩) vc 3 (⟨(i, j), ⟨by omega, hj2⟩⟩ : PartX d) = #[.slice (some ⟨bb, oo + i * 3, none⟩) (j - i) (vc - i)] := by
      unfold partEnc partV sliced
      simp only
      rw [if_neg (by omega)]
      simp only [Option.map_some, WideShapes.add_plain]
     rw [hrow] at hYY
     have HNX : Hid (∀ w7, J (pre ++ [⟨(i, j), ⟨by omega, hj2⟩⟩]) w7 → Kb w0.heap.size base top wr.drew w7 → ∃ (i' : Nat) (pre' : List (PartX d)), i' ≤ d.length ∧ pre'.length ≤ i' ∧ i' = j ∧ Hid ((pre'.map (·.1)).map (cutP d) ++ partsBy r (d.drop i') = partsBy r d) ∧ J pre' w7 ∧ Below w0.heap.size w0 w7 ∧ Hid (w7.heap[Bl]? = some (.cells #[.slice (some ⟨bb, oo, none⟩) d.length vc] 29) ∧ w7.heap[Ba]? = some (.cells #[.func (.func 101) #[] #[]] 128)) ∧ W.heap.size ≤ w7.heap.size) := Lib.hid fun w7 hJ7 hk7 => by
      refine ⟨j, _, hj2, by simp; omega, rfl, Lib.hid ?_, hJ7, (below_from hb1 HBx).trans hk7.below, Lib.hid ⟨hk7.cells _ _ hbase.1 htop.1 (heap_below HBx HBL.out.1) rfl, hk7.cells _ _ hbase.2 htop.2 (heap_below HBx HBL.out.2) rfl⟩, Nat.le_trans hz1 (Nat.le_trans HBx.size hk7.below.size)⟩
      have := parts_snoc2 HP.out HDA.out
      rw [HE2.out] at this
      rw [List.map_append]
      exact this
     obtain ⟨fn, tmps, assign, body, hy, hR⟩ := hYY
     go_upto_region 5 with fail
     refine (wpIn_wide (n := n)).1 ?_
     gi_wp2_with fail
     refine hR.mono ?_
     rintro e w7 (⟨rfl, hJ7, hk7⟩ | ⟨rfl, hJx7⟩)
     ·obtain ⟨i', pre', u1, u2, u3, u4, u5, u6, u7, u8⟩ := HNX.out w7 hJ7 hk7
      gi_wp2_with fail
      go_wp2_with fail
      go_roundw
      case rel => exact ⟨i', pre', u1, u2, by rw [u3], u4, u5, u6, u7, u8⟩
      case measure => simp [intOf]; omega
     ·gi_wp2_with fail
      go_wp2_with fail
      refine bodyPost_ret (results_none rfl _ _ _) rfl ?_
      exact ⟨⟨_, rfl⟩, .inr ⟨_, trivial, hJx7⟩⟩
  ·obtain rfl : i = d.length := by omega
   have HAll := Lib.hid (parts_all (r := r) HP.out)
   go_wp2_with fail
   go_end0
   exact ⟨⟨_, rfl⟩, .inl ⟨pre, by have h := HAll.out; rw [List.map_map] at h; exact h, hJs⟩⟩
set_option maxRecDepth 200000 in
set_option maxHeartbeats 4000000 in
theorem parts1_row (n l Bl Ba base top : Nat)  (va : Option Addr) (vc : Nat) (d : List Cel) (r : Cel → Cel → Bool) (S : Nat → Prop) (J Jx : List (PartX d) → World → Prop) (w0 W : World) (hv : CelsR false w0 S (.slice va d.length vc) d) (hb0 : Below w0.heap.size w0 W)
  (hal : ∀ X, Below w0.heap.size w0 X → ∀ x y : Cel, Calls Tryz.prog 84 #[.agg #[.int .i32 x.r, .int .i64 x.bits, .string ⟨x.href.toArray⟩], .agg #[.int .i32 y.r, .int .i64 y.bits, .string ⟨y.href.toArray⟩]] X fun e X' => e = .returned (.bool (r x y)) ∧ Below X.heap.size X X')
  (hbase : base ≤ Bl ∧ base ≤ Ba) (htop : Bl < top ∧ Ba < top) (hD : W.heap[Bl]? = some (.cells #[.slice va d.length vc] 29)) (hA : W.heap[Ba]? = some (.cells #[.func (.func 84) #[] #[]] 128))
  (hlen : d.length ≤ 100000) (hJ : AbidesFrom W.heap.size J)
  (hY : ∀ (pre : List (PartX d)) (x : PartX d) W, J pre W → pre.length < d.length → YieldAt Fence.wide (n - 1) Tryz.prog l (partEnc va vc 3 x) W fun e W' =>
   (e = .returned (.bool true) ∧ J (pre ++ [x]) W' ∧ Kb w0.heap.size base top W W') ∨ (e = .returned (.bool false) ∧ Jx (pre ++ [x]) W'))
  (h0 : J [] W) :
  CallsIn Fence.wide n Tryz.prog 92 #[.func (.yield l) #[] #[], .pointer (some ⟨Bl, 0, none⟩), .pointer (some ⟨Ba, 0, none⟩)] W fun e W' => (∃ v, e = .returned v) ∧
   ((∃ ys : List (PartX d), ys.map (fun y => cutP d y.1) = partsBy r d ∧ J ys W') ∨ (∃ pre, True ∧ Jx pre W')) := by
 refine callsIn_of_wp Tryz.func92 rfl trivial ?_ rfl
 simp only [Tryz.ntmps92, List.size_toArray, List.length_cons, List.length_nil, Nat.reduceAdd, Nat.reduceSub, Array.replicate_succ, Array.replicate_zero, List.push_toArray, List.append_toArray, List.nil_append, List.cons_append]
 have hwf : ∀ f, Fence.wide.fn f := fun _ => trivial
 have hwd : Fence.wide.depth = none := rfl
 obtain ⟨va', vc', hve, hvc, hvm, hx⟩ := cels_shape hv
 cases hve
 have HX := Lib.hid hx
 have HY := Lib.hid hY
 have HAL := Lib.hid hal
 have HJA := Lib.hid hJ
 have HBK := Lib.hid (And.intro hD hA)
 unfold maxLen at hvm
 clear hx hv hY hal hJ hD hA
 refine wpIn_wide.2 ?_
 go_wp2_with fail
 go_loopw [4, 5] (fun f _ wr => ∃ (i : Nat) (pre : List (PartX d)), i ≤ d.length ∧ pre.length ≤ i ∧ f = .int .i64 i ∧ Hid ((pre.map (·.1)).map (cutP d) ++ partsBy r (d.drop i) = partsBy r d) ∧ J pre wr ∧ Below w0.heap.size w0 wr ∧ Hid (wr.heap[Bl]? = some (.cells #[.slice va d.length vc] 29) ∧ wr.heap[Ba]? = some (.cells #[.func (.func 84) #[] #[]] 128)) ∧ W.heap.size ≤ wr.heap.size)
  (fun f _ _ => d.length - (intOf f).toNat)
 case atStart => exact ⟨0, [], Nat.zero_le _, Nat.le_refl _, rfl, Lib.hid rfl, h0, hb0, HBK, Nat.le_refl _⟩
 case round =>
  obtain ⟨i, pre, hi, hpl, rfl, HP, hJs, hb1, HBL, hz1⟩ := hrel
  obtain ⟨p1, f1⟩ := blk HBL.out.1
  obtain ⟨p2, f2⟩ := blk HBL.out.2
  by_cases hlt : i < d.length
  ·obtain ⟨a, ha, hda⟩ := getOf d i hlt
   obtain ⟨bb, oo, eva, hz, c0, c1, c2⟩ := HX.out i a ha
   subst eva
   have HDA := Lib.hid hda
   have HC := Lib.hid (And.intro hz (And.intro c0 (And.intro c1 c2)))
   have HJS := Lib.hid hJs
   clear ha hda c0 c1 c2 hJs
   go_wp2_with fail
   go_loopw [5] (fun t wq => ∃ j : Nat, i + 1 ≤ j ∧ j ≤ d.length ∧ t = .int .i64 j ∧ Hid (runTo r a d j = runTo r a d (i + 1)) ∧ Hid (Below wr.heap.size wr wq)) (fun t _ => d.length - (intOf t).toNat)
   case atStart => exact ⟨i + 1, Nat.le_refl _, hlt, by go_num, Lib.hid rfl, Lib.hid (Below.refl _ _)⟩
   case round =>
    obtain ⟨j, hj1, hj2, rfl, HE, HB⟩ := hrel
    have HW0 := Lib.hid (below_from hb1 HB.out)
    obtain ⟨q1, g1⟩ := blk (heap_below HB.out HBL.out.1)
    obtain ⟨q2, g2⟩ := blk (heap_below HB.out HBL.out.2)
    have c0 := (HW0.out.cell (p := ⟨bb, oo + i * 3, none⟩) HC.out.1).trans HC.out.2.1
    have c1 := (HW0.out.cell (p := ⟨bb, oo + i * 3 + 1, none⟩) HC.out.1).trans HC.out.2.2.1
    have c2 := (HW0.out.cell (p := ⟨bb, oo + i * 3 + 2, none⟩) HC.out.1).trans HC.out.2.2.2
    have hwr : Below wr.heap.size wr wr.drew := (Below.refl _ _).drew
    have i0 : (0 : Int) ≤ (i : Int) := Int.natCast_nonneg _
    have i1 : (i : Int) < (d.length : Int) := by omega
    have hne : ¬ vc = i := by omega
    clear p1 f1 p2 f2
    by_cases hlt2 : j < d.length
    ·obtain ⟨y, hy, hdy⟩ := getOf d j hlt2
     obtain ⟨b2, o2, e2, hz2, k0, k1, k2⟩ := HX.out j y hy
     cases e2
     have HC2 := Lib.hid (And.intro k0 (And.intro k1 k2))
     have k0 := (HW0.out.cell (p := ⟨bb, oo + j * 3, none⟩) hz2).trans k0
     have k1 := (HW0.out.cell (p := ⟨bb, oo + j * 3 + 1, none⟩) hz2).trans k1
     have k2 := (HW0.out.cell (p := ⟨bb, oo + j * 3 + 2, none⟩) hz2).trans k2
     have j0 : (0 : Int) ≤ (j : Int) := Int.natCast_nonneg _
     have j1 : (j : Int) < (d.length : Int) := by omega
     have hdj : decide ((j : Int) < (d.length : Int)) = true := by simp; omega
     have HCA : Hid (∀ X, Below wr.heap.size wr X → Calls Tryz.prog 84 #[.agg #[.int .i32 a.r, .int .i64 a.bits, .string ⟨a.href.toArray⟩], .agg #[.int .i32 y.r, .int .i64 y.bits, .string ⟨y.href.toArray⟩]] X fun e X' => e = .returned (.bool (r a y)) ∧ Below X.heap.size X X') := Lib.hid fun X hX => HAL.out X (below_from HW0.out hX) a y
     have HDY := Lib.hid hdy
     clear hy hdy
     cases hr : r a y
     all_goals
      rw [hr] at HCA
      have HRR := Lib.hid hr
      clear hr
      go_wp2_with fail
      (go_region_held3 (fun w' => w'.cell? ⟨Bl, 0, none⟩ = some (.slice (some ⟨bb, oo, none⟩) d.length vc) ∧ w'.cell? ⟨Ba, 0, none⟩ = some (.func (.func 84) #[] #[]) ∧ w'.cell? ⟨bb, oo + i * 3, none⟩ = some (.int .i32 a.r) ∧ w'.cell? ⟨bb, oo + i * 3 + 1, none⟩ = some (.int .i64 a.bits) ∧ w'.cell? ⟨bb, oo + i * 3 + 2, none⟩ = some (.string ⟨a.href.toArray⟩) ∧ w'.cell? ⟨bb, oo + j * 3, none⟩ = some (.int .i32 y.r) ∧ w'.cell? ⟨bb, oo + j * 3 + 1, none⟩ = some (.int .i64 y.bits) ∧ w'.cell? ⟨bb, oo + j * 3 + 2, none⟩ = some (.string ⟨y.href.toArray⟩)) ((first | go_keep | skip)) ((go_at_call 84; (with_reducible refine (HCA.out _ (by assumption)).mono ?_); rintro e w5 ⟨rfl, hb5⟩; have hx5 : Below wr.heap.size wr w5 := below_from (by assumption) hb5; obtain ⟨r1, s1⟩ := blk (heap_below hx5 (heap_below HB.out HBL.out.1)); obtain ⟨r2, s2⟩ := blk (heap_below hx5 (heap_below HB.out HBL.out.2)); have HW5 := below_from HW0.out hx5; have m0 := (HW5.cell (p := ⟨bb, oo + i * 3, none⟩) HC.out.1).trans HC.out.2.1; have m1 := (HW5.cell (p := ⟨bb, oo + i * 3 + 1, none⟩) HC.out.1).trans HC.out.2.2.1; have m2 := (HW5.cell (p := ⟨bb, oo + i * 3 + 2, none⟩) HC.out.1).trans HC.out.2.2.2; have n0 := (HW5.cell (p := ⟨bb, oo + j * 3, none⟩) hz2).trans HC2.out.1; have n1 := (HW5.cell (p := ⟨bb, oo + j * 3 + 1, none⟩) hz2).trans HC2.out.2.1; have n2 := (HW5.cell (p := ⟨bb, oo + j * 3 + 2, none⟩) hz2).trans HC2.out.2.2)))
     ·have HE2 : Hid (runTo r a d (i + 1) = j) := Lib.hid (HE.out.symm.trans (runTo_no HDY.out HRR.out))
      have HBx := below_from HB.out hx5
      have hYY := HY.out pre ⟨(i, j), ⟨by omega, hj2⟩⟩ w5 (abides_below HJA.out HJS.out HBx) (by omega)
      have hrow : partEnc (some ⟨bb, oo, none⟩) vc 3 (⟨(i, j), ⟨by omega, hj2⟩⟩ : PartX d) = #[.slice (some ⟨bb, oo + i * 3, none⟩) (j - i) (vc - i)] := by
       unfold partEnc partV sliced
       simp only
       rw [if_neg (by omega)]
       simp only [Option.map_some, WideShapes.add_plain]
      rw [hrow] at hYY
      have HNX : Hid (∀ w7, J (pre ++ [⟨(i, j), ⟨by omega, hj2⟩⟩]) w7 → Kb w0.heap.size base top w5 w7 → ∃ (i' : Nat) (pre' : List (PartX d)), i' ≤ d.length ∧ pre'.length ≤ i' ∧ i' = j ∧ Hid ((pre'.map (·.1)).map (cutP d) ++ partsBy r (d.drop i') = partsBy r d) ∧ J pre' w7 ∧ Below w0.heap.size w0 w7 ∧ Hid (w7.heap[Bl]? = some (.cells #[.slice (some ⟨bb, oo, none⟩) d.length vc] 29) ∧ w7.heap[Ba]? = some (.cells #[.func (.func 84) #[] #[]] 128)) ∧ W.heap.size ≤ w7.heap.size) := Lib.hid fun w7 hJ7 hk7 => by
       refine ⟨j, _, hj2, by simp; omega, rfl, Lib.hid ?_, hJ7, (below_from hb1 HBx).trans hk7.below, Lib.hid ⟨hk7.cells _ _ hbase.1 htop.1 (heap_below HBx HBL.out.1) rfl, hk7.cells _ _ hbase.2 htop.2 (heap_below HBx HBL.out.2) rfl⟩, Nat.le_trans hz1 (Nat.le_trans HBx.size hk7.below.size)⟩
       have := parts_snoc2 HP.out HDA.out
       rw [HE2.out] at this
       rw [List.map_append]
       exact this
      obtain ⟨fn, tmps, assign, body, hy, hR⟩ := hYY
      go_upto_region 5 with fail
      refine (wpIn_wide (n := n)).1 ?_
      gi_wp2_with fail
      refine hR.mono ?_
      rintro e w7 (⟨rfl, hJ7, hk7⟩ | ⟨rfl, hJx7⟩)
      ·obtain ⟨i', pre', u1, u2, u3, u4, u5, u6, u7, u8⟩ := HNX.out w7 hJ7 hk7
       gi_wp2_with fail
       go_wp2_with fail
       go_roundw
       case rel => exact ⟨i', pre', u1, u2, by rw [u3], u4, u5, u6, u7, u8⟩
       case measure => simp [intOf]; omega
      ·gi_wp2_with fail
       go_wp2_with fail
       refine bodyPost_ret (results_none rfl _ _ _) rfl ?_
       exact ⟨⟨_, rfl⟩, .inr ⟨_, trivial, hJx7⟩⟩
     ·go_wp2_with fail
      go_roundw
      case rel => exact ⟨j + 1, by omega, hlt2, by go_num, Lib.hid ((runTo_yes HDY.out HRR.out).symm.trans HE.out), Lib.hid (below_from HB.out hx5)⟩
      case measure => simp [intOf]; omega
    ·have hjd : j = d.length := by omega
     have HE2 : Hid (runTo r a d (i + 1) = j) := Lib.hid (by rw [← HE.out, hjd]; exact runTo_end)
     have hdj : decide ((j : Int) < (d.length : Int)) = false := by simp; omega
     clear hjd
     go_wp2_with fail
     go_region
     have HBx := below_from HB.out hwr
     have hYY := HY.out pre ⟨(i, j), ⟨by omega, hj2⟩⟩ wr.drew (abides_below HJA.out HJS.out HBx) (by omega)
     have hrow : partEnc (some ⟨bb, oo, none⟩) vc 3 (⟨(i, j), ⟨by omega, hj2⟩⟩ : PartX d) = #[.slice (some ⟨bb, oo + i * 3, none⟩) (j - i) (vc - i)] := by
      unfold partEnc partV sliced
      simp only
      rw [if_neg (by omega)]
      simp only [Option.map_some, WideShapes.add_plain]
     rw [hrow] at hYY
     have HNX : Hid (∀ w7, J (pre ++ [⟨(i, j), ⟨by omega, hj2⟩⟩]) w7 → Kb w0.heap.size base top wr.drew w7 → ∃ (i' : Nat) (pre' : List (PartX d)), i' ≤ d.length ∧ pre'.length ≤ i' ∧ i' = j ∧ Hid ((pre'.map (·.1)).map (cutP d) ++ partsBy r (d.drop i') = partsBy r d) ∧ J pre' w7 ∧ Below w0.heap.size w0 w7 ∧ Hid (w7.heap[Bl]? = some (.cells #[.slice (some ⟨bb, oo, none⟩) d.length vc] 29) ∧ w7.heap[Ba]? = some (.cells #[.func (.func 84) #[] #[]] 128)) ∧ W.heap.size ≤ w7.heap.size) := Lib.hid fun w7 hJ7 hk7 => by
      refine ⟨j, _, hj2, by simp; omega, rfl, Lib.hid ?_, hJ7, (below_from hb1 HBx).trans hk7.below, Lib.hid ⟨hk7.cells _ _ hbase.1 htop.1 (heap_below HBx HBL.out.1) rfl, hk7.cells _ _ hbase.2 htop.2 (heap_below HBx HBL.out.2) rfl⟩, Nat.le_trans hz1 (Nat.le_trans HBx.size hk7.below.size)⟩
      have := parts_snoc2 HP.out HDA.out
      rw [HE2.out] at this
      rw [List.map_append]
      exact this
     obtain ⟨fn, tmps, assign, body, hy, hR⟩ := hYY
     go_upto_region 5 with fail
     refine (wpIn_wide (n := n)).1 ?_
     gi_wp2_with fail
     refine hR.mono ?_
     rintro e w7 (⟨rfl, hJ7, hk7⟩ | ⟨rfl, hJx7⟩)
     ·obtain ⟨i', pre', u1, u2, u3, u4, u5, u6, u7, u8⟩ := HNX.out w7 hJ7 hk7
      gi_wp2_with fail
      go_wp2_with fail
      go_roundw
      case rel => exact ⟨i', pre', u1, u2, by rw [u3], u4, u5, u6, u7, u8⟩
      case measure => simp [intOf]; omega
     ·gi_wp2_with fail
      go_wp2_with fail
      refine bodyPost_ret (results_none rfl _ _ _) rfl ?_
      exact ⟨⟨_, rfl⟩, .inr ⟨_, trivial, hJx7⟩⟩
  ·obtain rfl : i = d.length := by omega
   have HAll := Lib.hid (parts_all (r := r) HP.out)
   go_wp2_with fail
   go_end0
   exact ⟨⟨_, rfl⟩, .inl ⟨pre, by have h := HAll.out; rw [List.map_map] at h; exact h, hJs⟩⟩
set_option maxRecDepth 200000 in
set_option maxHeartbeats 4000000 in
theorem parts1_styled (n l Bl Ba base top : Nat) (Bb : Nat) (va : Option Addr) (vc : Nat) (d : List Cel) (r : Cel → Cel → Bool) (S : Nat → Prop) (J Jx : List (PartX d) → World → Prop) (w0 W : World) (hv : CelsR false w0 S (.slice va d.length vc) d) (hb0 : Below w0.heap.size w0 W)
  (hal : ∀ X, Below w0.heap.size w0 X → ∀ x y : Cel, Calls Tryz.prog 94 #[.agg #[.int .i32 x.r, .int .i64 x.bits, .string ⟨x.href.toArray⟩], .agg #[.int .i32 y.r, .int .i64 y.bits, .string ⟨y.href.toArray⟩], .pointer (some ⟨Bb, 0, none⟩)] X fun e X' => e = .returned (.bool (r x y)) ∧ Below X.heap.size X X')
  (hbase : base ≤ Bl ∧ base ≤ Ba) (htop : Bl < top ∧ Ba < top) (hD : W.heap[Bl]? = some (.cells #[.slice va d.length vc] 29)) (hA : W.heap[Ba]? = some (.cells #[.func (.func 94) #[] #[.pointer (some ⟨Bb, 0, none⟩)]] 128))
  (hlen : d.length ≤ 100000) (hJ : AbidesFrom W.heap.size J)
  (hY : ∀ (pre : List (PartX d)) (x : PartX d) W, J pre W → pre.length < d.length → YieldAt Fence.wide (n - 1) Tryz.prog l (partEnc va vc 3 x) W fun e W' =>
   (e = .returned (.bool true) ∧ J (pre ++ [x]) W' ∧ Kb w0.heap.size base top W W') ∨ (e = .returned (.bool false) ∧ Jx (pre ++ [x]) W'))
  (h0 : J [] W) :
  CallsIn Fence.wide n Tryz.prog 92 #[.func (.yield l) #[] #[], .pointer (some ⟨Bl, 0, none⟩), .pointer (some ⟨Ba, 0, none⟩)] W fun e W' => (∃ v, e = .returned v) ∧
   ((∃ ys : List (PartX d), ys.map (fun y => cutP d y.1) = partsBy r d ∧ J ys W') ∨ (∃ pre, True ∧ Jx pre W')) := by
 refine callsIn_of_wp Tryz.func92 rfl trivial ?_ rfl
 simp only [Tryz.ntmps92, List.size_toArray, List.length_cons, List.length_nil, Nat.reduceAdd, Nat.reduceSub, Array.replicate_succ, Array.replicate_zero, List.push_toArray, List.append_toArray, List.nil_append, List.cons_append]
 have hwf : ∀ f, Fence.wide.fn f := fun _ => trivial
 have hwd : Fence.wide.depth = none := rfl
 obtain ⟨va', vc', hve, hvc, hvm, hx⟩ := cels_shape hv
 cases hve
 have HX := Lib.hid hx
 have HY := Lib.hid hY
 have HAL := Lib.hid hal
 have HJA := Lib.hid hJ
 have HBK := Lib.hid (And.intro hD hA)
 unfold maxLen at hvm
 clear hx hv hY hal hJ hD hA
 refine wpIn_wide.2 ?_
 go_wp2_with fail
 go_loopw [4, 5] (fun f _ wr => ∃ (i : Nat) (pre : List (PartX d)), i ≤ d.length ∧ pre.length ≤ i ∧ f = .int .i64 i ∧ Hid ((pre.map (·.1)).map (cutP d) ++ partsBy r (d.drop i) = partsBy r d) ∧ J pre wr ∧ Below w0.heap.size w0 wr ∧ Hid (wr.heap[Bl]? = some (.cells #[.slice va d.length vc] 29) ∧ wr.heap[Ba]? = some (.cells #[.func (.func 94) #[] #[.pointer (some ⟨Bb, 0, none⟩)]] 128)) ∧ W.heap.size ≤ wr.heap.size)
  (fun f _ _ => d.length - (intOf f).toNat)
 case atStart => exact ⟨0, [], Nat.zero_le _, Nat.le_refl _, rfl, Lib.hid rfl, h0, hb0, HBK, Nat.le_refl _⟩
 case round =>
  obtain ⟨i, pre, hi, hpl, rfl, HP, hJs, hb1, HBL, hz1⟩ := hrel
  obtain ⟨p1, f1⟩ := blk HBL.out.1
  obtain ⟨p2, f2⟩ := blk HBL.out.2
  by_cases hlt : i < d.length
  ·obtain ⟨a, ha, hda⟩ := getOf d i hlt
   obtain ⟨bb, oo, eva, hz, c0, c1, c2⟩ := HX.out i a ha
   subst eva
   have HDA := Lib.hid hda
   have HC := Lib.hid (And.intro hz (And.intro c0 (And.intro c1 c2)))
   have HJS := Lib.hid hJs
   clear ha hda c0 c1 c2 hJs
   go_wp2_with fail
   go_loopw [5] (fun t wq => ∃ j : Nat, i + 1 ≤ j ∧ j ≤ d.length ∧ t = .int .i64 j ∧ Hid (runTo r a d j = runTo r a d (i + 1)) ∧ Hid (Below wr.heap.size wr wq)) (fun t _ => d.length - (intOf t).toNat)
   case atStart => exact ⟨i + 1, Nat.le_refl _, hlt, by go_num, Lib.hid rfl, Lib.hid (Below.refl _ _)⟩
   case round =>
    obtain ⟨j, hj1, hj2, rfl, HE, HB⟩ := hrel
    have HW0 := Lib.hid (below_from hb1 HB.out)
    obtain ⟨q1, g1⟩ := blk (heap_below HB.out HBL.out.1)
    obtain ⟨q2, g2⟩ := blk (heap_below HB.out HBL.out.2)
    have c0 := (HW0.out.cell (p := ⟨bb, oo + i * 3, none⟩) HC.out.1).trans HC.out.2.1
    have c1 := (HW0.out.cell (p := ⟨bb, oo + i * 3 + 1, none⟩) HC.out.1).trans HC.out.2.2.1
    have c2 := (HW0.out.cell (p := ⟨bb, oo + i * 3 + 2, none⟩) HC.out.1).trans HC.out.2.2.2
    have hwr : Below wr.heap.size wr wr.drew := (Below.refl _ _).drew
    have i0 : (0 : Int) ≤ (i : Int) := Int.natCast_nonneg _
    have i1 : (i : Int) < (d.length : Int) := by omega
    have hne : ¬ vc = i := by omega
    clear p1 f1 p2 f2
    by_cases hlt2 : j < d.length
    ·obtain ⟨y, hy, hdy⟩ := getOf d j hlt2
     obtain ⟨b2, o2, e2, hz2, k0, k1, k2⟩ := HX.out j y hy
     cases e2
     have HC2 := Lib.hid (And.intro k0 (And.intro k1 k2))
     have k0 := (HW0.out.cell (p := ⟨bb, oo + j * 3, none⟩) hz2).trans k0
     have k1 := (HW0.out.cell (p := ⟨bb, oo + j * 3 + 1, none⟩) hz2).trans k1
     have k2 := (HW0.out.cell (p := ⟨bb, oo + j * 3 + 2, none⟩) hz2).trans k2
     have j0 : (0 : Int) ≤ (j : Int) := Int.natCast_nonneg _
     have j1 : (j : Int) < (d.length : Int) := by omega
     have hdj : decide ((j : Int) < (d.length : Int)) = true := by simp; omega
     have HCA : Hid (∀ X, Below wr.heap.size wr X → Calls Tryz.prog 94 #[.agg #[.int .i32 a.r, .int .i64 a.bits, .string ⟨a.href.toArray⟩], .agg #[.int .i32 y.r, .int .i64 y.bits, .string ⟨y.href.toArray⟩], .pointer (some ⟨Bb, 0, none⟩)] X fun e X' => e = .returned (.bool (r a y)) ∧ Below X.heap.size X X') := Lib.hid fun X hX => HAL.out X (below_from HW0.out hX) a y
     have HDY := Lib.hid hdy
     clear hy hdy
     cases hr : r a y
     all_goals
      rw [hr] at HCA
      have HRR := Lib.hid hr
      clear hr
      go_wp2_with fail
      (go_region_held3 (fun w' => w'.cell? ⟨Bl, 0, none⟩ = some (.slice (some ⟨bb, oo, none⟩) d.length vc) ∧ w'.cell? ⟨Ba, 0, none⟩ = some (.func (.func 94) #[] #[.pointer (some ⟨Bb, 0, none⟩)]) ∧ w'.cell? ⟨bb, oo + i * 3, none⟩ = some (.int .i32 a.r) ∧ w'.cell? ⟨bb, oo + i * 3 + 1, none⟩ = some (.int .i64 a.bits) ∧ w'.cell? ⟨bb, oo + i * 3 + 2, none⟩ = some (.string ⟨a.href.toArray⟩) ∧ w'.cell? ⟨bb, oo + j * 3, none⟩ = some (.int .i32 y.r) ∧ w'.cell? ⟨bb, oo + j * 3 + 1, none⟩ = some (.int .i64 y.bits) ∧ w'.cell? ⟨bb, oo + j * 3 + 2, none⟩ = some (.string ⟨y.href.toArray⟩)) ((first | go_keep | skip)) ((go_at_call 94; (with_reducible refine (HCA.out _ (by assumption)).mono ?_); rintro e w5 ⟨rfl, hb5⟩; have hx5 : Below wr.heap.size wr w5 := below_from (by assumption) hb5; obtain ⟨r1, s1⟩ := blk (heap_below hx5 (heap_below HB.out HBL.out.1)); obtain ⟨r2, s2⟩ := blk (heap_below hx5 (heap_below HB.out HBL.out.2)); have HW5 := below_from HW0.out hx5; have m0 := (HW5.cell (p := ⟨bb, oo + i * 3, none⟩) HC.out.1).trans HC.out.2.1; have m1 := (HW5.cell (p := ⟨bb, oo + i * 3 + 1, none⟩) HC.out.1).trans HC.out.2.2.1; have m2 := (HW5.cell (p := ⟨bb, oo + i * 3 + 2, none⟩) HC.out.1).trans HC.out.2.2.2; have n0 := (HW5.cell (p := ⟨bb, oo + j * 3, none⟩) hz2).trans HC2.out.1; have n1 := (HW5.cell (p := ⟨bb, oo + j * 3 + 1, none⟩) hz2).trans HC2.out.2.1; have n2 := (HW5.cell (p := ⟨bb, oo + j * 3 + 2, none⟩) hz2).trans HC2.out.2.2)))
     ·have HE2 : Hid (runTo r a d (i + 1) = j) := Lib.hid (HE.out.symm.trans (runTo_no HDY.out HRR.out))
      have HBx := below_from HB.out hx5
      have hYY := HY.out pre ⟨(i, j), ⟨by omega, hj2⟩⟩ w5 (abides_below HJA.out HJS.out HBx) (by omega)
      have hrow : partEnc (some ⟨bb, oo, none⟩) vc 3 (⟨(i, j), ⟨by omega, hj2⟩⟩ : PartX d) = #[.slice (some ⟨bb, oo + i * 3, none⟩) (j - i) (vc - i)] := by
       unfold partEnc partV sliced
       simp only
       rw [if_neg (by omega)]
       simp only [Option.map_some, WideShapes.add_plain]
      rw [hrow] at hYY
      have HNX : Hid (∀ w7, J (pre ++ [⟨(i, j), ⟨by omega, hj2⟩⟩]) w7 → Kb w0.heap.size base top w5 w7 → ∃ (i' : Nat) (pre' : List (PartX d)), i' ≤ d.length ∧ pre'.length ≤ i' ∧ i' = j ∧ Hid ((pre'.map (·.1)).map (cutP d) ++ partsBy r (d.drop i') = partsBy r d) ∧ J pre' w7 ∧ Below w0.heap.size w0 w7 ∧ Hid (w7.heap[Bl]? = some (.cells #[.slice (some ⟨bb, oo, none⟩) d.length vc] 29) ∧ w7.heap[Ba]? = some (.cells #[.func (.func 94) #[] #[.pointer (some ⟨Bb, 0, none⟩)]] 128)) ∧ W.heap.size ≤ w7.heap.size) := Lib.hid fun w7 hJ7 hk7 => by
       refine ⟨j, _, hj2, by simp; omega, rfl, Lib.hid ?_, hJ7, (below_from hb1 HBx).trans hk7.below, Lib.hid ⟨hk7.cells _ _ hbase.1 htop.1 (heap_below HBx HBL.out.1) rfl, hk7.cells _ _ hbase.2 htop.2 (heap_below HBx HBL.out.2) rfl⟩, Nat.le_trans hz1 (Nat.le_trans HBx.size hk7.below.size)⟩
       have := parts_snoc2 HP.out HDA.out
       rw [HE2.out] at this
       rw [List.map_append]
       exact this
      obtain ⟨fn, tmps, assign, body, hy, hR⟩ := hYY
      go_upto_region 5 with fail
      refine (wpIn_wide (n := n)).1 ?_
      gi_wp2_with fail
      refine hR.mono ?_
      rintro e w7 (⟨rfl, hJ7, hk7⟩ | ⟨rfl, hJx7⟩)
      ·obtain ⟨i', pre', u1, u2, u3, u4, u5, u6, u7, u8⟩ := HNX.out w7 hJ7 hk7
       gi_wp2_with fail
       go_wp2_with fail
       go_roundw
       case rel => exact ⟨i', pre', u1, u2, by rw [u3], u4, u5, u6, u7, u8⟩
       case measure => simp [intOf]; omega
      ·gi_wp2_with fail
       go_wp2_with fail
       refine bodyPost_ret (results_none rfl _ _ _) rfl ?_
       exact ⟨⟨_, rfl⟩, .inr ⟨_, trivial, hJx7⟩⟩
     ·go_wp2_with fail
      go_roundw
      case rel => exact ⟨j + 1, by omega, hlt2, by go_num, Lib.hid ((runTo_yes HDY.out HRR.out).symm.trans HE.out), Lib.hid (below_from HB.out hx5)⟩
      case measure => simp [intOf]; omega
    ·have hjd : j = d.length := by omega
     have HE2 : Hid (runTo r a d (i + 1) = j) := Lib.hid (by rw [← HE.out, hjd]; exact runTo_end)
     have hdj : decide ((j : Int) < (d.length : Int)) = false := by simp; omega
     clear hjd
     go_wp2_with fail
     go_region
     have HBx := below_from HB.out hwr
     have hYY := HY.out pre ⟨(i, j), ⟨by omega, hj2⟩⟩ wr.drew (abides_below HJA.out HJS.out HBx) (by omega)
     have hrow : partEnc (some ⟨bb, oo, none⟩) vc 3 (⟨(i, j), ⟨by omega, hj2⟩⟩ : PartX d) = #[.slice (some ⟨bb, oo + i * 3, none⟩) (j - i) (vc - i)] := by
      unfold partEnc partV sliced
      simp only
      rw [if_neg (by omega)]
      simp only [Option.map_some, WideShapes.add_plain]
     rw [hrow] at hYY
     have HNX : Hid (∀ w7, J (pre ++ [⟨(i, j), ⟨by omega, hj2⟩⟩]) w7 → Kb w0.heap.size base top wr.drew w7 → ∃ (i' : Nat) (pre' : List (PartX d)), i' ≤ d.length ∧ pre'.length ≤ i' ∧ i' = j ∧ Hid ((pre'.map (·.1)).map (cutP d) ++ partsBy r (d.drop i') = partsBy r d) ∧ J pre' w7 ∧ Below w0.heap.size w0 w7 ∧ Hid (w7.heap[Bl]? = some (.cells #[.slice (some ⟨bb, oo, none⟩) d.length vc] 29) ∧ w7.heap[Ba]? = some (.cells #[.func (.func 94) #[] #[.pointer (some ⟨Bb, 0, none⟩)]] 128)) ∧ W.heap.size ≤ w7.heap.size) := Lib.hid fun w7 hJ7 hk7 => by
      refine ⟨j, _, hj2, by simp; omega, rfl, Lib.hid ?_, hJ7, (below_from hb1 HBx).trans hk7.below, Lib.hid ⟨hk7.cells _ _ hbase.1 htop.1 (heap_below HBx HBL.out.1) rfl, hk7.cells _ _ hbase.2 htop.2 (heap_below HBx HBL.out.2) rfl⟩, Nat.le_trans hz1 (Nat.le_trans HBx.size hk7.below.size)⟩
      have := parts_snoc2 HP.out HDA.out
      rw [HE2.out] at this
      rw [List.map_append]
      exact this
     obtain ⟨fn, tmps, assign, body, hy, hR⟩ := hYY
     go_upto_region 5 with fail
     refine (wpIn_wide (n := n)).1 ?_
     gi_wp2_with fail
     refine hR.mono ?_
     rintro e w7 (⟨rfl, hJ7, hk7⟩ | ⟨rfl, hJx7⟩)
     ·obtain ⟨i', pre', u1, u2, u3, u4, u5, u6, u7, u8⟩ := HNX.out w7 hJ7 hk7
      gi_wp2_with fail
      go_wp2_with fail
      go_roundw
      case rel => exact ⟨i', pre', u1, u2, by rw [u3], u4, u5, u6, u7, u8⟩
      case measure => simp [intOf]; omega
     ·gi_wp2_with fail
      go_wp2_with fail
      refine bodyPost_ret (results_none rfl _ _ _) rfl ?_
      exact ⟨⟨_, rfl⟩, .inr ⟨_, trivial, hJx7⟩⟩
  ·obtain rfl : i = d.length := by omega
   have HAll := Lib.hid (parts_all (r := r) HP.out)
   go_wp2_with fail
   go_end0
   exact ⟨⟨_, rfl⟩, .inl ⟨pre, by have h := HAll.out; rw [List.map_map] at h; exact h, hJs⟩⟩
end Go.Proofs.YteognfhemmogpaaGreatDoor
