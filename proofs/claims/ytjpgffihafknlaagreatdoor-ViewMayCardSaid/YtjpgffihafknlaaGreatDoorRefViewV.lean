/- Nodes of a tree; a row cut into parts: plainly. -/
import Derived.Test.YtjpgffihafknlaaGreatDoorOpenPntV
import Derived.Lib.QuoteLoop
import Derived.Lib.TrimUEq
import Derived.Lib.SplitLaws
import Derived.Lib.IndexLaws
import Derived.Lib.TrimByte
import Derived.Lib.Join
import Derived.Laws.Entries
set_option linter.unusedVariables false
set_option linter.unusedSimpArgs false
namespace Go.Proofs.Qw
open Go.RowKit
structure Att where
 name : List UInt8
 value : List UInt8
 deriving DecidableEq, Inhabited
inductive Nod where
 | mk (tag : Int) (attrs : List Att) (text : List UInt8) (kids : List Nod)
 deriving Inhabited
namespace Nod
def tag : Nod → Int | mk t _ _ _ => t
def attrs : Nod → List Att | mk _ a _ _ => a
def text : Nod → List UInt8 | mk _ _ x _ => x
def kids : Nod → List Nod | mk _ _ _ k => k
mutual
def decEq : (a b : Nod) → Decidable (a = b)
 | mk t a x k, mk t' a' x' k' =>
  if h1 : t = t' then if h2 : a = a' then if h3 : x = x' then
   match decEqs k k' with
   | isTrue h => isTrue (by subst h1 h2 h3 h; rfl)
   | isFalse h => isFalse (by intro e; cases e; exact h rfl)
  else isFalse (by intro e; cases e; exact h3 rfl)
  else isFalse (by intro e; cases e; exact h2 rfl)
  else isFalse (by intro e; cases e; exact h1 rfl)
def decEqs : (a b : List Nod) → Decidable (a = b)
 | [], [] => isTrue rfl
 | [], _ :: _ => isFalse (by simp)
 | _ :: _, [] => isFalse (by simp)
 | x :: xs, y :: ys => match decEq x y, decEqs xs ys with
  | isTrue h1, isTrue h2 => isTrue (by rw [h1, h2])
  | isFalse h, _ => isFalse (by intro e; cases e; exact h rfl)
  | _, isFalse h => isFalse (by intro e; cases e; exact h rfl)
end
instance : DecidableEq Nod := decEq
mutual
def count : Nod → Nat | mk _ _ _ ks => 1 + counts ks
def counts : List Nod → Nat | [] => 0 | k :: ks => count k + counts ks
end
end Nod
end Go.Proofs.Qw
namespace Go.Proofs.Qw
open Go.RowKit
def encAtt (a : Att) : List Value := [.string ⟨a.name.toArray⟩, .string ⟨a.value.toArray⟩]
abbrev AttsR (own : Bool) (w : World) (S : Nat → Prop) (v : Value) (l : List Att) : Prop := SliceR 105 2 (rdOf encAtt) own w S v l
def rdNod (own : Bool) : Nat → Rd Nod
 | 0 => fun _ _ _ _ => False
 | h + 1 => fun w S vs n => ∃ a k, vs = [.int .i64 n.tag, a, .string ⟨n.text.toArray⟩, k] ∧ AttsR own w S a n.attrs ∧ SliceR 25 4 (rdNod own h) own w S k n.kids
abbrev NodsR (own : Bool) (h : Nat) (w : World) (S : Nat → Prop) (v : Value) (l : List Nod) : Prop := SliceR 25 4 (rdNod own h) own w S v l
theorem rdNod_stable (own : Bool) : ∀ h, Stable (rdNod own h)
 | 0 => ⟨fun _ _ _ _ _ _ h _ _ => h⟩
 | h + 1 => ⟨fun _ _ _ _ _ _ ⟨a, k, h1, h2, h3⟩ hk hS => ⟨a, k, h1, SliceR.stable (rdOf_stable _) h2 hk hS, SliceR.stable (rdNod_stable own h) h3 hk hS⟩⟩
theorem SliceR.imp {α : Type} {t : TypeId} {k : Nat} {R R' : Rd α} {own : Bool} {w : World} {S : Nat → Prop} {v : Value} {xs : List α} (hR : ∀ vs x, x ∈ xs → R w S vs x → R' w S vs x) (h : SliceR t k R own w S v xs) : SliceR t k R' own w S v xs := by
 obtain ⟨a, c, h1, h2, h3, h | ⟨b, o, rfl, hb, hz, hf, he⟩⟩ := h
 ·exact ⟨a, c, h1, h2, h3, .inl h⟩
 ·exact ⟨_, c, h1, h2, h3, .inr ⟨b, o, rfl, hb, hz, hf, fun i x hx => by
   obtain ⟨vs, g1, g2, g3⟩ := he i x hx
   exact ⟨vs, g1, hR _ _ (List.mem_of_getElem? hx) g2, g3⟩⟩⟩
theorem rdNod_succ : ∀ {h : Nat} {own : Bool} {w : World} {S : Nat → Prop} {vs : List Value} {n : Nod}, rdNod own h w S vs n → rdNod own (h + 1) w S vs n
 | 0, _, _, _, _, _, h => h.elim
 | h + 1, _, _, _, _, _, ⟨a, k, h1, h2, h3⟩ => ⟨a, k, h1, h2, h3.imp fun _ _ _ h => rdNod_succ h⟩
theorem rdNod_mono {h h' : Nat} {own : Bool} {w : World} {S : Nat → Prop} {vs : List Value} {n : Nod} (hh : h ≤ h') (hn : rdNod own h w S vs n) : rdNod own h' w S vs n := by
 induction hh with
 | refl => exact hn
 | step _ ih => exact rdNod_succ ih
def NodV (own : Bool) (h : Nat) (w : World) (S : Nat → Prop) (v : Value) (n : Nod) : Prop := ∃ a k, v = .agg #[.int .i64 n.tag, a, .string ⟨n.text.toArray⟩, k] ∧ AttsR own w S a n.attrs ∧ NodsR own h w S k n.kids
theorem NodV.below {own : Bool} {h : Nat} {w w' : World} {S : Nat → Prop} {v : Value} {n : Nod} (hn : NodV own h w S v n) (hb : Below w.heap.size w w') : NodV own h w' S v n := by
 obtain ⟨a, k, h1, h2, h3⟩ := hn
 exact ⟨a, k, h1, h2.below (rdOf_stable _) hb, h3.below (rdNod_stable _ _) hb⟩
structure NodAt (h : Nat) (w : World) (S : Nat → Prop) (b o : Nat) (n : Nod) (aa : Option Addr) (ac : Nat) (ka : Option Addr) (kc : Nat) : Prop where
 lt : b < w.heap.size
 tag : w.cell? ⟨b, o, none⟩ = some (.int .i64 n.tag)
 attrs : w.cell? ⟨b, o + 1, none⟩ = some (.slice aa n.attrs.length ac)
 text : w.cell? ⟨b, o + 2, none⟩ = some (.string ⟨n.text.toArray⟩)
 kids : w.cell? ⟨b, o + 3, none⟩ = some (.slice ka n.kids.length kc)
 attrsR : AttsR false w S (.slice aa n.attrs.length ac) n.attrs
 kidsR : NodsR false h w S (.slice ka n.kids.length kc) n.kids
theorem NodAt.below {h : Nat} {w w' : World} {S : Nat → Prop} {b o : Nat} {n : Nod} {aa ka : Option Addr} {ac kc : Nat} (hn : NodAt h w S b o n aa ac ka kc) (hb : Below w.heap.size w w') : NodAt h w' S b o n aa ac ka kc :=
 ⟨Nat.lt_of_lt_of_le hn.lt hb.size, (hb.cell hn.lt).trans hn.tag, (hb.cell hn.lt).trans hn.attrs, (hb.cell hn.lt).trans hn.text, (hb.cell hn.lt).trans hn.kids, hn.attrsR.below (rdOf_stable _) hb, hn.kidsR.below (rdNod_stable _ _) hb⟩
theorem nods_shape {h : Nat} {w : World} {S : Nat → Prop} {v : Value} {d : List Nod} (hd : NodsR false h w S v d) :
  ∃ a c, v = .slice a d.length c ∧ d.length ≤ c ∧ c ≤ maxLen ∧ ∀ i l, d[i]? = some l → ∃ b o aa ac ka kc h', h = h' + 1 ∧ a = some ⟨b, o, none⟩ ∧ NodAt h' w S b (o + i * 4) l aa ac ka kc := by
 obtain ⟨a, c, rfl, hc, hm, hx⟩ := SliceR.shape hd
 refine ⟨a, c, rfl, hc, hm, fun i l hl => ?_⟩
 obtain ⟨b, o, vs, rfl, hz, _, _, hR, he⟩ := hx i l hl
 match h, hR with
 | h' + 1, ⟨x, y, e, h1, h2⟩ =>
  subst e
  obtain ⟨aa, ac, rfl⟩ := h1.slice
  obtain ⟨ka, kc, rfl⟩ := h2.slice
  exact ⟨b, o, aa, ac, ka, kc, h', rfl, rfl, hz, he 0 _ rfl, he 1 _ rfl, he 2 _ rfl, he 3 _ rfl, h1, h2⟩
theorem atts_shape {w : World} {S : Nat → Prop} {v : Value} {d : List Att} (h : AttsR false w S v d) :
  ∃ a c, v = .slice a d.length c ∧ d.length ≤ c ∧ c ≤ maxLen ∧ ∀ i l, d[i]? = some l → ∃ b o, a = some ⟨b, o, none⟩ ∧ b < w.heap.size ∧ w.cell? ⟨b, o + i * 2, none⟩ = some (.string ⟨l.name.toArray⟩) ∧ w.cell? ⟨b, o + i * 2 + 1, none⟩ = some (.string ⟨l.value.toArray⟩) := by
 obtain ⟨a, c, rfl, hc, hm, hx⟩ := h.shape
 refine ⟨a, c, rfl, hc, hm, fun i l hl => ?_⟩
 obtain ⟨b, o, vs, rfl, hz, _, _, e, he⟩ := hx i l hl
 have e : vs = encAtt l := e
 subst e
 exact ⟨b, o, rfl, hz, he 0 _ rfl, he 1 _ rfl⟩
end Go.Proofs.Qw
namespace Go.Proofs.Qw
open Go.RowKit Go.Proofs.YtjpgffihafknlaaGreatDoor
structure EltX {α : Type} (k : Nat) (R : Rd α) : Prop where
 pos : 0 < k
 len : ∀ w S vs x, R w S vs x → vs.length = k
 ones : ∀ w S vs x, R w S vs x → ∀ u ∈ vs, u.oneCell' = true
 st : Stable R
def RwX {α : Type} (t : TypeId) (k : Nat) (R : Rd α) (w : World) (n : Nat) (v : Value) (xs : List α) : Prop :=
 ∃ a c, v = .slice a xs.length c ∧ xs.length ≤ c ∧ c ≤ maxLen ∧ ((xs = [] ∧ c = 0) ∨ ∃ b o, a = some ⟨b, o, none⟩ ∧ n ≤ b ∧ b < w.heap.size ∧ (∃ cs, w.heap[b]? = some (.cells cs t) ∧ o + c * k ≤ cs.size) ∧
  ∀ i x, xs[i]? = some x → ∃ vs : List Value, vs.length = k ∧ R w (fun b' => n ≤ b' ∧ b' ≠ b) vs x ∧ ∀ j u, vs[j]? = some u → w.cell? ⟨b, o + i * k + j, none⟩ = some u)
def rowBlk : Value → Option Nat
 | .slice (some p) _ (_ + 1) => some p.block
 | _ => none
theorem RwX.nil {α : Type} (t : TypeId) (k : Nat) (R : Rd α) (w : World) (n : Nat) : RwX t k R w n (.slice none 0 0) [] := ⟨none, 0, rfl, Nat.le_refl _, by decide, .inl ⟨rfl, rfl⟩⟩
theorem RwX.row {α : Type} {t : TypeId} {k : Nat} {R : Rd α} (hR : Stable R) {w : World} {n : Nat} {v : Value} {xs : List α} (h : RwX t k R w n v xs) : SliceR t k R true w (fun b => n ≤ b) v xs := by
 obtain ⟨a, c, h1, h2, h3, ⟨h, h0⟩ | ⟨b, o, rfl, hb, hz, hf, he⟩⟩ := h
 ·exact ⟨a, c, h1, h2, h3, .inl ⟨h, fun _ => h0⟩⟩
 ·exact ⟨_, c, h1, h2, h3, .inr ⟨b, o, rfl, hb, hz, fun _ => hf, fun i x hx => by
   obtain ⟨vs, g1, g2, g3⟩ := he i x hx
   exact ⟨vs, g1, hR.go _ _ _ _ _ _ g2 (Keeps.refl _ _) (fun _ h _ => h.1), g3⟩⟩⟩
theorem RwX.below {α : Type} {t : TypeId} {k : Nat} {R : Rd α} (hR : Stable R) {w w' : World} {n : Nat} {v : Value} {xs : List α} (h : RwX t k R w n v xs) (hk : Keeps (fun b => n ≤ b) w w') : RwX t k R w' n v xs := by
 obtain ⟨a, c, h1, h2, h3, h | ⟨b, o, rfl, hb, hz, ⟨cs, f1, f2⟩, he⟩⟩ := h
 ·exact ⟨a, c, h1, h2, h3, .inl h⟩
 ·refine ⟨_, c, h1, h2, h3, .inr ⟨b, o, rfl, hb, Nat.lt_of_lt_of_le hz hk.size, ⟨cs, (hk.block b hb hz).trans f1, f2⟩, fun i x hx => ?_⟩⟩
  obtain ⟨vs, g1, g2, g3⟩ := he i x hx
  exact ⟨vs, g1, hR.go _ _ _ _ _ _ g2 ⟨hk.size, fun b' hb' hz' => hk.block b' hb'.1 hz'⟩ (fun _ h _ => h), fun j u hu => by rw [World.cell?_of_block (w := w) (hk.block b hb hz)]; exact g3 j u hu⟩
theorem RwX.slice {α : Type} {t : TypeId} {k : Nat} {R : Rd α} {w : World} {n : Nat} {v : Value} {xs : List α} (h : RwX t k R w n v xs) : ∃ a c, v = .slice a xs.length c := by
 obtain ⟨a, c, rfl, _⟩ := h
 exact ⟨a, c, rfl⟩
theorem RwX.apart {α : Type} {t : TypeId} {k : Nat} {R : Rd α} {w : World} {n : Nat} {v : Value} {xs : List α} (h : RwX t k R w n v xs) : ∀ b, rowBlk v = some b → b < w.heap.size := by
 obtain ⟨a, c, rfl, _, _, ⟨_, h0⟩ | ⟨b, o, rfl, hb, hz, _⟩⟩ := h
 ·intro b hb
  subst h0
  cases a <;> cases hb
 ·intro b' hb'
  cases c with
  | zero => cases hb'
  | succ c => cases hb'; exact hz
end Go.Proofs.Qw
namespace Go.Proofs.Qw
open Go.RowKit
def massA (ats : List Att) : Nat := (ats.map fun a => 1 + a.name.length / 16 + a.value.length / 16).sum
namespace Nod
mutual
def mass : Nod → Nat | mk _ ats x ks => 1 + x.length / 16 + massA ats + masses ks
def masses : List Nod → Nat | [] => 0 | k :: ks => mass k + masses ks
end
mutual
def Sane : Nod → Prop | mk _ ats x ks => (x.length ≤ 281474976710656 ∧ ks.length ≤ 281474976710656 ∧ ats.length ≤ 281474976710656 ∧ ∀ a ∈ ats, a.name.length ≤ 281474976710656 ∧ a.value.length ≤ 281474976710656) ∧ Sanes ks
def Sanes : List Nod → Prop | [] => True | k :: ks => Sane k ∧ Sanes ks
end
theorem sanes_mem : ∀ {l : List Nod} {n : Nod}, Sanes l → n ∈ l → Sane n
 | _ :: _, _, ⟨h1, h2⟩, h => by
  rcases List.mem_cons.1 h with rfl | h
  ·exact h1
  ·exact sanes_mem h2 h
theorem sanes_of : ∀ {l : List Nod}, (∀ n ∈ l, Sane n) → Sanes l
 | [], _ => trivial
 | k :: ks, h => ⟨h k (by simp), sanes_of fun n hn => h n (by simp [hn])⟩
end Nod
def weighA : List Att → Int → Int
 | [], l => l
 | a :: ats, l => if 0 ≤ l then weighA ats (l - 1 - (a.name.length : Int) / 16 - (a.value.length : Int) / 16) else l
mutual
def weighN : Nod → Int → Int | .mk _ ats x ks, l => weighK ks (weighA ats (l - 1 - (x.length : Int) / 16))
def weighK : List Nod → Int → Int | [], l => l | k :: ks, l => if 0 ≤ l then weighK ks (weighN k l) else l
end
theorem weighA_neg {ats : List Att} {l : Int} (h : l < 0) : weighA ats l = l := by
 cases ats with
 | nil => rfl
 | cons a ats => rw [weighA, if_neg (by omega)]
theorem weighK_neg {ks : List Nod} {l : Int} (h : l < 0) : weighK ks l = l := by
 cases ks with
 | nil => rw [weighK]
 | cons a ats => rw [weighK, if_neg (by omega)]
theorem weighA_is : ∀ (ats : List Att) (l : Int), 0 ≤ weighA ats l → weighA ats l = l - massA ats
 | [], l, h => by simp [weighA, massA]
 | a :: ats, l, h => by
  rw [weighA] at h ⊢
  split at h
  ·rename_i h0
   rw [if_pos h0]
   rw [weighA_is ats _ h]
   have e : massA (a :: ats) = 1 + a.name.length / 16 + a.value.length / 16 + massA ats := by simp [massA]
   rw [e]
   omega
  ·omega
theorem weighA_le : ∀ (ats : List Att) (l : Int), weighA ats l ≤ l
 | [], l => by simp [weighA]
 | a :: ats, l => by
  rw [weighA]
  split
  ·have := weighA_le ats (l - 1 - (a.name.length : Int) / 16 - (a.value.length : Int) / 16)
   omega
  ·omega
theorem weighN_is : ∀ (n : Nod) (l : Int), 0 ≤ weighN n l → weighN n l = l - n.mass := by
 intro n
 refine Nod.rec (motive_1 := fun n => ∀ l : Int, 0 ≤ weighN n l → weighN n l = l - n.mass) (motive_2 := fun ks => ∀ l : Int, 0 ≤ weighK ks l → weighK ks l = l - Nod.masses ks) ?_ ?_ ?_ n
 ·intro t ats x ks ih l h
  rw [weighN] at h ⊢
  have h1 := ih _ h
  rw [h1] at h ⊢
  have h2 := weighA_is ats (l - 1 - (x.length : Int) / 16) (by omega)
  rw [h2]
  unfold Nod.mass
  omega
 ·intro l h
  simp [weighK, Nod.masses]
 ·intro k ks h1 h2 l h
  rw [weighK] at h ⊢
  split at h
  ·rename_i h0
   rw [if_pos h0]
   have h3 := h2 _ h
   rw [h3] at h ⊢
   have h4 := h1 l (by omega)
   rw [h4]
   have e : Nod.masses (k :: ks) = k.mass + Nod.masses ks := by rw [Nod.masses]
   omega
  ·omega
theorem weighN_le : ∀ (n : Nod) (l : Int), weighN n l ≤ l - 1 := by
 intro n
 refine Nod.rec (motive_1 := fun n => ∀ l : Int, weighN n l ≤ l - 1) (motive_2 := fun ks => ∀ l : Int, weighK ks l ≤ l) ?_ ?_ ?_ n
 ·intro t ats x ks ih l
  rw [weighN]
  have h1 := ih (weighA ats (l - 1 - (x.length : Int) / 16))
  have h2 := weighA_le ats (l - 1 - (x.length : Int) / 16)
  omega
 ·intro l
  rw [weighK]
  omega
 ·intro k ks h1 h2 l
  rw [weighK]
  split
  ·have h3 := h1 l
   have h4 := h2 (weighN k l)
   omega
  ·omega
theorem weighA_ge : ∀ (ats : List Att) (l : Int), (∀ a ∈ ats, a.name.length ≤ 281474976710656 ∧ a.value.length ≤ 281474976710656) → min l (-100000000000000) ≤ weighA ats l
 | [], l, _ => by rw [weighA]; omega
 | a :: ats, l, h => by
  rw [weighA]
  split
  ·have := weighA_ge ats (l - 1 - (a.name.length : Int) / 16 - (a.value.length : Int) / 16) (fun b hb => h b (by simp [hb]))
   have := h a (by simp)
   omega
  ·omega
theorem weighN_ge : ∀ (n : Nod) (l : Int), 0 ≤ l → n.Sane → -100000000000000 ≤ weighN n l := by
 intro n
 refine Nod.rec (motive_1 := fun n => ∀ l : Int, 0 ≤ l → n.Sane → -100000000000000 ≤ weighN n l) (motive_2 := fun ks => ∀ l : Int, Nod.Sanes ks → min l (-100000000000000) ≤ weighK ks l) ?_ ?_ ?_ n
 ·intro t ats x ks ih l h0 hs
  rw [weighN]
  unfold Nod.Sane at hs
  have h1 := ih (weighA ats (l - 1 - (x.length : Int) / 16)) hs.2
  have h2 := weighA_ge ats (l - 1 - (x.length : Int) / 16) hs.1.2.2.2
  have h3 := hs.1.1
  omega
 ·intro l _
  rw [weighK]
  omega
 ·intro k ks h1 h2 l hs
  rw [weighK]
  unfold Nod.Sanes at hs
  split
  ·rename_i h0
   have h3 := h1 l h0 hs.1
   have h4 := h2 (weighN k l) hs.2
   omega
  ·omega
end Go.Proofs.Qw
namespace Go.Proofs.YtjpgffihafknlaaGreatDoor
open Go.RowKit
open Go.Proofs.Qw
attribute [local go_sem ↓] Go.wp_at_zero Go.wp_at_succ
abbrev nodV (n : Nod) (a k : Value) : Value := .agg #[.int .i64 n.tag, a, .string ⟨n.text.toArray⟩, k]
theorem results_node {fn : Func} {p : Tmp} (h : fn.results = #[.cell p 25]) (tmps : Array Value) (w : World) (B : Nat) (x y z u : Value) (hp : tmps.getD p undef = .pointer (some ⟨B, 0, none⟩)) (hg : w.heap[B]? = some (.cells #[x, y, z, u] 25)) :
  (results fn tmps).run Tryz.prog w = .ok (.agg #[x, y, z, u]) w :=
 results_cell_row h tmps w B _ _ _ _ hp hg Tryz.underlying25 rfl (by kernel_rfl)
end Go.Proofs.YtjpgffihafknlaaGreatDoor
namespace Go.Proofs.Qw
open Go.RowKit Go.Proofs.YtjpgffihafknlaaGreatDoor Go.Deep
section
variable {H : Type} {enc : TypeId × Value → H} {P : Program} {w : World} {base : Nat} {held : Bool}
theorem open_row_lt {α : Type} [Inhabited α] {t e t0 : TypeId} {k fuel : Nat} {R : Rd α} {cs : List Value} {x : DataW H × List MemPlace} (Q : DataW H → α → Prop) (ht : P.underlying t = some (.slice e)) (hk : P.cellsOf e = k) (hk0 : 0 < k)
  (h : DataW.trod enc P w base (fun _ => true) held fuel t cs = some x)
  (hR : ∀ n, n < fuel → ∀ cs y, DataW.trod enc P w base (fun _ => true) held n e cs = some y → ∃ x, R w (fun _ => True) cs x ∧ Q y.1 x) :
  ∃ (v : Value) (xs : List α), cs = [v] ∧ SliceR t0 k R false w (fun _ => True) v xs ∧ ((x.1 = .nil ∧ xs = []) ∨ ∃ (elems spare : List (DataW H)), x.1 = .slice elems spare ∧ elems.length = xs.length ∧ ∀ (i : Nat) (a : α), xs[i]? = some a → ∃ d, elems[i]? = some d ∧ Q d a) := by
 rcases DataW.trod_slice ht h with ⟨rfl, rfl⟩ | ⟨a, len, cap, elems, rest, n, hn, rfl, rfl, hb, hl, hm, hlen, hx, _, _⟩
 ·exact ⟨_, [], rfl, SliceR.nil _ _ _ _ _ _, .inl ⟨rfl, rfl⟩⟩
 have hx2 : ∀ i, i < len → ∃ y : α, ∃ cs', (w.cells? base (a.add (i * P.cellsOf e)) (P.cellsOf e) = some cs' ∧ R w (fun _ => True) cs' y) ∧ ∃ d, (elems.map (·.1))[i]? = some d ∧ Q d y := fun i hi => by
  have h1 := hx i hi
  have hi' : i < elems.length := by omega
  rw [List.getElem?_eq_getElem hi', Option.bind_eq_some_iff] at h1
  obtain ⟨cs', h2, h3⟩ := h1
  obtain ⟨y, g1, g2⟩ := hR n (by omega) _ _ h3
  exact ⟨y, cs', ⟨h2, g1⟩, _, by rw [List.getElem?_map, List.getElem?_eq_getElem hi']; rfl, g2⟩
 obtain ⟨Y, hY⟩ := choose_lt hx2
 refine ⟨_, (List.range len).map Y, rfl, ?_, .inr ⟨_, _, rfl, by simp [hlen], fun i y hi => ?_⟩⟩
 ·by_cases h0 : len = 0
  ·subst h0
   exact ⟨some a, cap, rfl, by simp, hm, .inl ⟨rfl, fun h => by cases h⟩⟩
  obtain ⟨c0, ⟨g1, _⟩, _⟩ := hY 0 (by omega)
  have gs := World.cells?_some g1
  obtain ⟨b, off, spot⟩ := a
  have hc0 : c0.length = k := by rw [gs.2.1, hk]
  have g3 := gs.2.2 0 (by omega)
  have hspot : spot = none := by
   rw [List.getElem?_eq_getElem (by omega)] at g3
   simpa [Addr.add] using World.cell?_spot g3
  subst hspot
  have hlt : b < w.heap.size := by
   have := World.cells?_block g1 (by omega)
   simpa [Addr.add] using this
  refine ⟨_, cap, by simp, by simp; omega, hm, .inr ⟨b, off, rfl, trivial, hlt, (fun h => by cases h), fun i y hi => ?_⟩⟩
  have hil : i < len := by have := (List.getElem?_eq_some_iff.1 hi).1; simpa using this
  have hy : y = Y i := by simp [hil] at hi; exact hi.symm
  subst hy
  obtain ⟨cs', ⟨q1, q2⟩, _⟩ := hY i hil
  have qs := World.cells?_some q1
  refine ⟨cs', by rw [qs.2.1, hk], q2, fun j u hu => ?_⟩
  have hj := (List.getElem?_eq_some_iff.1 hu).1
  have := qs.2.2 j (by rw [← qs.2.1]; exact hj)
  rw [hu, hk, WideShapes.add_plain, WideShapes.add_plain] at this
  rwa [Nat.add_assoc] at this ⊢
 ·have hil : i < len := by have := (List.getElem?_eq_some_iff.1 hi).1; simpa using this
  have hy : y = Y i := by simp [hil] at hi; exact hi.symm
  subst hy
  obtain ⟨cs', _, q⟩ := hY i hil
  exact q
end
section
variable {H : Type} {enc : TypeId × Value → H} {w : World} {base : Nat} {held : Bool} {sp : Nat → Bool}
def AttD (d : DataW H) (a : Att) : Prop := d = .agg [.lit (.string a.name), .lit (.string a.value)]
set_option maxRecDepth 100000 in
theorem open_att {n : Nat} {cs : List Value} {y : DataW H × List MemPlace} (h : DataW.trod enc Tryz.prog w base sp held n 105 cs = some y) : ∃ c : Att, rdOf encAtt w (fun _ => True) cs c ∧ AttD y.1 c := by
 obtain ⟨xs, m, _, rfl, hl, hxs, hf⟩ := DataW.trod_struct Tryz.underlying105 h
 have h0 := hf 0 _ rfl
 have h1 := hf 1 _ rfl
 rw [show Tryz.prog.cellsOf 105 = 2 by kernel_rfl] at hl
 match cs, hl with
 | [a, b], _ =>
  match xs, hxs with
  | [x0, x1], _ =>
   obtain ⟨s, e0, rfl, _⟩ := DataW.trod_string Tryz.underlying9 h0
   obtain ⟨u, e1, rfl, _⟩ := DataW.trod_string Tryz.underlying9 h1
   have e0 : [a] = [Value.string s] := e0
   have e1 : [b] = [Value.string u] := e1
   cases e0
   cases e1
   exact ⟨⟨s.data.toList, u.data.toList⟩, by show _ = encAtt _; unfold encAtt; rw [str_back, str_back], rfl⟩
def NodD (d : DataW H) (n : Nod) : Prop := (∀ k ∈ d.weights Tryz.prog 25, k ≤ reachBytes) → n.Sane
set_option maxRecDepth 100000 in
theorem open_nodF (fuel : Nat) : ∀ (cs : List Value) (y : DataW H × List MemPlace), DataW.trod enc Tryz.prog w base (fun _ => true) held fuel 25 cs = some y → ∃ x : Nod, rdNod false fuel w (fun _ => True) cs x ∧ NodD y.1 x := by
 induction fuel using Nat.strongRecOn with
 | _ fuel ih =>
  intro cs y h
  obtain ⟨xs, m, hm, rfl, hl, hxs, hf⟩ := DataW.trod_struct Tryz.underlying25 h
  subst hm
  have h0 := hf 0 _ rfl
  have h1 := hf 1 _ rfl
  have h2 := hf 2 _ rfl
  have h3 := hf 3 _ rfl
  rw [show Tryz.prog.cellsOf 25 = 4 by kernel_rfl] at hl
  match cs, hl with
  | [a, b, c, d], _ =>
   match xs, hxs with
   | [x0, x1, x2, x3], _ =>
    obtain ⟨q, e0, rfl, _⟩ := DataW.trod_int Tryz.underlying3 h0
    obtain ⟨s, e2, rfl, _⟩ := DataW.trod_string Tryz.underlying9 h2
    obtain ⟨av, al, e1, hal, haw⟩ := open_row (t0 := 105) (k := 2) (R := rdOf encAtt) AttD Tryz.underlying22 (by kernel_rfl) (by decide) h1 (fun n cs y h => open_att h)
    obtain ⟨kv, kl, e3, hkl, hkw⟩ := open_row_lt (t0 := 25) (k := 4) (R := rdNod false m) NodD Tryz.underlying23 (by kernel_rfl) (by decide) h3 (fun n hn cs y h => by
     obtain ⟨x, g1, g2⟩ := ih n (by omega) cs y h
     exact ⟨x, rdNod_mono (by omega) g1, g2⟩)
    have e0 : [a] = [Value.int .i64 q] := e0
    have e1 : [b] = [av] := e1
    have e2 : [c] = [Value.string s] := e2
    have e3 : [d] = [kv] := e3
    cases e0
    cases e1
    cases e2
    cases e3
    refine ⟨.mk q al s.data.toList kl, ⟨_, _, by simp only [Nod.tag, Nod.text], hal, hkl⟩, fun hw => ?_⟩
    have hw1 : ∀ n ∈ x1.1.weights Tryz.prog 22, n ≤ reachBytes := fun n hn => hw n (by
     simp only [List.map_cons, List.map_nil, DataW.weights, Tryz.underlying25, DataW.weightsEach, List.mem_append]
     simp [hn])
    have hw2 : s.data.toList.length ≤ reachBytes := hw _ (by
     simp only [List.map_cons, List.map_nil, DataW.weights, Tryz.underlying25, DataW.weightsEach, List.mem_append]
     simp)
    have hw3 : ∀ n ∈ x3.1.weights Tryz.prog 23, n ≤ reachBytes := fun n hn => hw n (by
     simp only [List.map_cons, List.map_nil, DataW.weights, Tryz.underlying25, DataW.weightsEach, List.mem_append]
     simp [hn])
    clear hw
    rw [Nod.Sane]
    unfold reachBytes at hw2
    refine ⟨⟨by omega, ?_, ?_, ?_⟩, Nod.sanes_of fun n hn => ?_⟩
    ·rcases hkw with ⟨_, rfl⟩ | ⟨el, spr, hd, hl, _⟩
     ·simp
     ·rw [hd] at hw3
      have := hw3 ((el.length + spr.length) * Tryz.prog.bytesOf 25) (by rw [DataW.weights, Tryz.underlying23]; exact List.mem_cons_self)
      rw [show Tryz.prog.bytesOf 25 = 72 by kernel_rfl] at this
      unfold reachBytes at this
      omega
    ·rcases haw with ⟨_, rfl⟩ | ⟨el, spr, hd, hl, _⟩
     ·simp
     ·rw [hd] at hw1
      have := hw1 ((el.length + spr.length) * Tryz.prog.bytesOf 105) (by rw [DataW.weights, Tryz.underlying22]; exact List.mem_cons_self)
      rw [show Tryz.prog.bytesOf 105 = 32 by kernel_rfl] at this
      unfold reachBytes at this
      omega
    ·intro c hc
     rcases haw with ⟨_, rfl⟩ | ⟨el, spr, hd, hl, hel⟩
     ·cases hc
     ·rw [hd] at hw1
      obtain ⟨i, hi⟩ := List.getElem?_of_mem hc
      obtain ⟨dd, g1, g2⟩ := hel i c hi
      have key : ∀ n ∈ dd.weights Tryz.prog 105, n ≤ reachBytes := fun n hn => hw1 n (by
       rw [DataW.weights, Tryz.underlying22]
       exact List.mem_cons_of_mem _ (List.mem_append_left _ (weightsAll_mem hn (List.mem_of_getElem? g1))))
      rw [show dd = _ from g2] at key
      have k1 := key c.name.length (by simp [DataW.weights, Tryz.underlying105, DataW.weightsEach])
      have k2 := key c.value.length (by simp [DataW.weights, Tryz.underlying105, DataW.weightsEach])
      unfold reachBytes at k1 k2
      omega
    ·rcases hkw with ⟨_, rfl⟩ | ⟨el, spr, hd, _, hel⟩
     ·cases hn
     ·rw [hd] at hw3
      obtain ⟨i, hi⟩ := List.getElem?_of_mem hn
      obtain ⟨dd, g1, g2⟩ := hel i n hi
      exact g2 fun k hk => hw3 k (by
       rw [DataW.weights, Tryz.underlying23]
       exact List.mem_cons_of_mem _ (List.mem_append_left _ (weightsAll_mem hk (List.mem_of_getElem? g1))))
set_option maxRecDepth 100000 in
theorem open_nod {v : Value} {d : DataW H} {ps : List MemPlace} (hv : ∃ cs, v = .agg cs ∧ cs.size = Tryz.prog.cellsOf 25) (h : DataW.Trod enc Tryz.prog w base (fun _ => true) held 25 v d ps) (hw : ∀ n ∈ d.weights Tryz.prog 25, n ≤ reachBytes) :
  ∃ (n : Nod) (ht : Nat) (a k : Value), v = nodV n a k ∧ AttsR false w (fun _ => True) a n.attrs ∧ NodsR false ht w (fun _ => True) k n.kids ∧ n.Sane := by
 obtain ⟨cs, rfl, hsz⟩ := hv
 obtain ⟨fuel, hf⟩ := h
 obtain ⟨n, h1, h2⟩ := open_nodF fuel _ _ hf
 match fuel, h1 with
 | ht + 1, ⟨a, k, e, ha, hk⟩ =>
  refine ⟨n, ht, a, k, ?_, ha, hk, h2 hw⟩
  have e : cs.toList = _ := e
  unfold nodV
  congr 1
  exact Array.ext' (by rw [e])
end
end Go.Proofs.Qw
namespace Go.Proofs.Qw
open Go.RowKit Go.Proofs.YtjpgffihafknlaaGreatDoor
theorem decode_valid (s : ByteArray) (pos : Nat) : Lib.validRune ((Utf8.decode s pos).1 : Int) = true := by
 rw [← Lib.decodeL_drop]
 exact Lib.rune_valid _
theorem runesGo_valid (s : ByteArray) : ∀ (f pos : Nat), ∀ c ∈ runesGo s f pos, Lib.validRune c = true
 | 0, _, c, h => by simp [runesGo] at h
 | f + 1, pos, c, h => by
  unfold runesGo at h
  split at h
  ·rcases List.mem_cons.1 h with rfl | h
   ·exact decode_valid s pos
   ·exact runesGo_valid s f _ c h
  ·cases h
theorem classF_valid {c : Int} (h : Lib.validRune c = true) : classF c ≠ 0 := by
 unfold classF
 rw [h, if_neg (by decide)]
 (repeat' split) <;> decide
theorem classF_runes (t : ByteArray) : ∀ c ∈ runesB t, classF c ≠ 0 := fun c h => classF_valid (runesGo_valid t _ _ c h)
theorem classF_ge (c : Int) : 0 ≤ classF c := by
 unfold classF
 (repeat' split) <;> decide
theorem classF_32 : classF 32 = 2 := by decide
def cleanR (c : Int) : Option Int := if c = 9 ∨ c = 12 ∨ c = 13 then some 32 else if c = 10 then some 10 else if classF c = 1 then none else some c
def cellsOf (l : List Int) (b : Int) (h : List UInt8) : List Cel := l.map fun c => ⟨c, b, h⟩
end Go.Proofs.Qw
namespace Go.Proofs.Qw
open Go.RowKit Go.Proofs.YtjpgffihafknlaaGreatDoor
theorem byte_nat {x : Int} (h0 : 0 ≤ x) (h1 : x < 256) : (x.toNat.toUInt8).toNat = x.toNat := by
 rw [UInt8.toNat_ofNat']
 omega
theorem decode_encode {r : Int} (h : Lib.validRune r = true) (t : List UInt8) : Lib.decodeL (Lib.encodeRune r ++ t) = (r.toNat, (Lib.encodeRune r).length) := by
 unfold Lib.validRune at h
 rw [decide_eq_true_eq] at h
 rw [Lib.decodeL_N]
 unfold Lib.encodeRune
 by_cases h1 : r ≤ 127
 ·rw [Lib.encodeRuneZ_one (by omega) h1]
  simp only [List.map_cons, List.map_nil, List.singleton_append, List.length_cons, List.length_nil, List.getD_cons_zero]
  rw [byte_nat (by omega) (by omega)]
  unfold Lib.decodeN
  rw [if_pos (by omega)]
 by_cases h2 : r ≤ 2047
 ·rw [Lib.encodeRuneZ_two (by omega) h2]
  simp only [List.map_cons, List.map_nil, List.cons_append, List.nil_append, List.length_cons, List.length_nil, List.getD_cons_zero, List.getD_cons_succ]
  rw [byte_nat (by omega) (by omega), byte_nat (by omega) (by omega)]
  unfold Lib.decodeN
  rw [if_neg (by omega), if_pos (by omega), if_pos (by omega)]
  congr 1
  omega
 by_cases h3 : r ≤ 65535
 ·rw [Lib.encodeRuneZ_three (by omega)]
  simp only [List.map_cons, List.map_nil, List.cons_append, List.nil_append, List.length_cons, List.length_nil, List.getD_cons_zero, List.getD_cons_succ]
  rw [byte_nat (by omega) (by omega), byte_nat (by omega) (by omega), byte_nat (by omega) (by omega)]
  unfold Lib.decodeN
  rw [if_neg (by omega), if_neg (by omega), if_pos (by omega), if_pos (by omega)]
  congr 1
  omega
 ·rw [Lib.encodeRuneZ_four (by omega) (by omega)]
  simp only [List.map_cons, List.map_nil, List.cons_append, List.nil_append, List.length_cons, List.length_nil, List.getD_cons_zero, List.getD_cons_succ]
  rw [byte_nat (by omega) (by omega), byte_nat (by omega) (by omega), byte_nat (by omega) (by omega), byte_nat (by omega) (by omega)]
  unfold Lib.decodeN
  rw [if_neg (by omega), if_neg (by omega), if_neg (by omega), if_pos (by omega), if_pos (by omega)]
  congr 1
  omega
theorem encode_pos (r : Int) : 1 ≤ (Lib.encodeRune r).length := by
 unfold Lib.encodeRune
 rw [List.length_map]
 exact (Lib.encodeRuneZ_length r).1
theorem runesL_of : ∀ (l : List Int) (f : Nat), (∀ c ∈ l, Lib.validRune c = true) → (l.flatMap Lib.encodeRune).length ≤ f → runesL f (l.flatMap Lib.encodeRune) = l
 | [], f, _, _ => by
  cases f with
  | zero => rfl
  | succ f => rw [List.flatMap_nil, runesL, if_pos rfl]
 | c :: l, f, hv, hf => by
  have hp := encode_pos c
  have hc := hv c (by simp)
  rw [List.flatMap_cons] at hf ⊢
  rw [List.length_append] at hf
  cases f with
  | zero => omega
  | succ f =>
   have hne : Lib.encodeRune c ++ l.flatMap Lib.encodeRune ≠ [] := by
    intro e
    rw [(List.append_eq_nil_iff.1 e).1] at hp
    simp at hp
   rw [runesL, if_neg hne, decode_encode hc, List.drop_left, runesL_of l f (fun x hx => hv x (by simp [hx])) (by omega)]
   congr 1
   unfold Lib.validRune at hc
   rw [decide_eq_true_eq] at hc
   simp only
   omega
theorem runesB_of (l : List Int) (hv : ∀ c ∈ l, Lib.validRune c = true) : runesB ⟨(l.flatMap Lib.encodeRune).toArray⟩ = l := by
 unfold runesB
 rw [runesGo_eq]
 simp only [List.drop_zero]
 exact runesL_of l _ hv (by simp [ByteArray.size])
def flatC (c : Int) : Option Int := if c = 9 ∨ c = 10 ∨ c = 12 ∨ c = 13 then some 32 else if classF c = 1 then none else some c
end Go.Proofs.Qw
namespace Go.Proofs.Qw
def lowc (c : UInt8) : UInt8 := if 65 ≤ c ∧ c ≤ 90 then c + 32 else c
def low (l : List UInt8) : List UInt8 := l.map lowc
def splitL (c : UInt8) : List UInt8 → List (List UInt8)
 | [] => [[]]
 | b :: l => if b = c then [] :: splitL c l else (b :: (splitL c l).headD []) :: (splitL c l).tail
theorem splitL_ne (c : UInt8) : ∀ l, splitL c l ≠ []
 | [] => by simp [splitL]
 | b :: l => by unfold splitL; split <;> simp
def underline : List UInt8 := [117, 110, 100, 101, 114, 108, 105, 110, 101]
def through : List UInt8 := [108, 105, 110, 101, 45, 116, 104, 114, 111, 117, 103, 104]
def fontWeight : List UInt8 := [102, 111, 110, 116, 45, 119, 101, 105, 103, 104, 116]
def fontStyle : List UInt8 := [102, 111, 110, 116, 45, 115, 116, 121, 108, 101]
def textDeco : List UInt8 := [116, 101, 120, 116, 45, 100, 101, 99, 111, 114, 97, 116, 105, 111, 110]
def bold : List UInt8 := [98, 111, 108, 100]
def w700 : List UInt8 := [55, 48, 48]
def normal : List UInt8 := [110, 111, 114, 109, 97, 108]
def w400 : List UInt8 := [52, 48, 48]
def italic : List UInt8 := [105, 116, 97, 108, 105, 99]
def none_ : List UInt8 := [110, 111, 110, 101]
def wordsGo (b : Int) (s : Bool) : List (List UInt8) → Int × Bool
 | [] => (b, s)
 | w :: r => if w = underline then wordsGo (bits .or .i64 b 4) true r
  else if w = through then wordsGo (bits .or .i64 b 8) true r
  else if w = [] then wordsGo b s r else (0, false)
def words (l : List UInt8) : Int × Bool := wordsGo 0 false (splitL 32 l)
theorem wordsGo1 {b : Int} {s : Bool} {w : List UInt8} {r : List (List UInt8)} (h : w = underline) : wordsGo b s (w :: r) = wordsGo (bits .or .i64 b 4) true r := by rw [wordsGo, if_pos h]
theorem wordsGo2 {b : Int} {s : Bool} {w : List UInt8} {r : List (List UInt8)} (h1 : w ≠ underline) (h : w = through) : wordsGo b s (w :: r) = wordsGo (bits .or .i64 b 8) true r := by rw [wordsGo, if_neg h1, if_pos h]
theorem wordsGo3 {b : Int} {s : Bool} {w : List UInt8} {r : List (List UInt8)} (h1 : w ≠ underline) (h2 : w ≠ through) (h : w = []) : wordsGo b s (w :: r) = wordsGo b s r := by rw [wordsGo, if_neg h1, if_neg h2, if_pos h]
theorem wordsGo4 {b : Int} {s : Bool} {w : List UInt8} {r : List (List UInt8)} (h1 : w ≠ underline) (h2 : w ≠ through) (h : w ≠ []) : wordsGo b s (w :: r) = (0, false) := by rw [wordsGo, if_neg h1, if_neg h2, if_neg h]
theorem low_length (l : List UInt8) : (low l).length = l.length := by simp [low]
theorem lowc_yes {b : UInt8} (h1 : 65 ≤ (b.toNat : Int)) (h2 : (b.toNat : Int) ≤ 90) : (b.toNat : Int) + 32 = ((lowc b).toNat : Int) := by
 have : 65 ≤ b ∧ b ≤ 90 := by rw [UInt8.le_iff_toNat_le, UInt8.le_iff_toNat_le]; simp; omega
 unfold lowc
 rw [if_pos this, UInt8.toNat_add]
 simp; omega
theorem lowc_no {b : UInt8} (h : ¬ (65 ≤ (b.toNat : Int) ∧ (b.toNat : Int) ≤ 90)) : lowc b = b := by
 unfold lowc
 rw [if_neg]
 rw [UInt8.le_iff_toNat_le, UInt8.le_iff_toNat_le]; simp; omega
theorem low_step {l : List UInt8} {k : Nat} {b : UInt8} (h : l[k]? = some b) : (low (l.take k) ++ l.drop k).set k (lowc b) = low (l.take (k + 1)) ++ l.drop (k + 1) := by
 obtain ⟨hk, rfl⟩ := List.getElem?_eq_some_iff.1 h
 have e : (low (l.take k)).length = k := by rw [low_length, List.length_take]; omega
 rw [List.set_append_right _ _ (by omega), e, Nat.sub_self, List.drop_eq_getElem_cons hk, List.set_cons_zero, List.take_succ_eq_append_getElem hk]
 unfold low
 rw [List.map_append, List.append_assoc]
 rfl
theorem low_keep {l : List UInt8} {k : Nat} {b : UInt8} (h : l[k]? = some b) (hb : lowc b = b) : low (l.take k) ++ l.drop k = low (l.take (k + 1)) ++ l.drop (k + 1) := by
 rw [← low_step h, hb]
 obtain ⟨hk, rfl⟩ := List.getElem?_eq_some_iff.1 h
 have e : (low (l.take k)).length = k := by rw [low_length, List.length_take]; omega
 rw [List.set_append_right _ _ (by omega), e, Nat.sub_self, List.drop_eq_getElem_cons hk, List.set_cons_zero]
theorem index_one_cons (b c : UInt8) (l : List UInt8) : Lib.index (b :: l) [c] = if b = c then 0 else if Lib.index l [c] = -1 then -1 else Lib.index l [c] + 1 := by
 rw [Lib.index_one, Lib.index_one, Lib.indexByte]
 simp only [beq_iff_eq]
theorem splitK_eq (c : UInt8) : ∀ (l : List UInt8) (k : Nat), l.count c ≤ k → Lib.splitK [c] 0 k l = splitL c l := by
 intro l
 induction l with
 | nil => intro k _; cases k <;> simp [Lib.splitK, splitL, Lib.index_one, Lib.indexByte]
 | cons b l ih =>
  intro k hk
  by_cases hb : b = c
  ·subst hb
   cases k with
   | zero => simp at hk
   | succ k =>
    rw [Lib.splitK, index_one_cons, if_pos rfl]
    simp only [List.length_singleton]
    rw [splitL, if_pos rfl]
    simp
    exact ih k (by simpa using hk)
  ·rw [splitL, if_neg hb]
   rw [List.count_cons_of_ne hb] at hk
   have hi := ih k hk
   have hge := Lib.indexByte_ge l c
   rw [← Lib.index_one] at hge
   cases k with
   | zero =>
    have : splitL c l = [l] := by rw [← hi, Lib.splitK]
    rw [Lib.splitK, this]; simp
   | succ k =>
    rw [Lib.splitK, index_one_cons, if_neg hb]
    rw [← hi, Lib.splitK]
    by_cases h1 : Lib.index l [c] = -1
    ·simp [h1]
    ·have h4 : (Lib.index l [c] == -1) = false := by rw [beq_eq_false_iff_ne]; exact h1
     have h5 : ¬ Lib.index l [c] + 1 = -1 := by omega
     simp only [h4, if_neg h1, Bool.false_eq_true, if_false, List.length_singleton, beq_iff_eq, if_neg h5]
     have e1 : (Lib.index l [c] + 1).toNat = (Lib.index l [c]).toNat + 1 := by omega
     simp [e1]
theorem splitB_one (c : UInt8) (s : ByteArray) : (Lib.splitB ⟨#[c]⟩ 0 (Lib.countB s ⟨#[c]⟩) s).map (·.data.toList) = splitL c s.data.toList := by
 rw [Lib.splitB_data]
 refine splitK_eq c _ _ ?_
 show _ ≤ Lib.count s.data.toList [c]
 rw [Lib.count_one]
 exact Nat.le_refl _
theorem splitB_len (c : UInt8) (s : ByteArray) : (Lib.splitB ⟨#[c]⟩ 0 (Lib.countB s ⟨#[c]⟩) s).length = Lib.countB s ⟨#[c]⟩ + 1 :=
 Lib.splitB_all ⟨#[c]⟩ (Nat.le_refl 1) 0 _ s rfl
theorem countB_small (c : UInt8) (s : ByteArray) : Lib.countB s ⟨#[c]⟩ ≤ s.size := Lib.countB_le ⟨#[c]⟩ (Nat.le_refl 1) _ s (Nat.le_refl _)
def declOf (d : List UInt8) : Option (List UInt8 × List UInt8) :=
 if (Lib.cut d [58]).2.2 = true then some (low (Lib.trimB (Lib.cut d [58]).1 32), low (Lib.trimB (Lib.cut d [58]).2.1 32)) else none
def decls (l : List UInt8) : List (List UInt8 × List UInt8) := (splitL 59 l).filterMap declOf
theorem splitL_le (c : UInt8) : ∀ (l : List UInt8) (x : List UInt8), x ∈ splitL c l → x.length ≤ l.length
 | [], x, h => by simp [splitL] at h; simp [h]
 | b :: l, x, h => by
  unfold splitL at h
  split at h
  ·rcases List.mem_cons.1 h with rfl | h
   ·simp
   ·have := splitL_le c l x h; simp; omega
  ·rcases List.mem_cons.1 h with rfl | h
   ·have hn := splitL_ne c l
    match hs : splitL c l with
    | [] => exact absurd hs hn
    | y :: r =>
     have := splitL_le c l y (by rw [hs]; simp)
     simp; omega
   ·have := splitL_le c l x (List.mem_of_mem_tail h); simp; omega
theorem dropWhile_le {α : Type} (p : α → Bool) : ∀ l : List α, (l.dropWhile p).length ≤ l.length
 | [] => by simp
 | b :: l => by rw [List.dropWhile_cons]; have := dropWhile_le p l; split <;> simp; omega
theorem trimB_le (l : List UInt8) (c : UInt8) : (Lib.trimB l c).length ≤ l.length := by
 unfold Lib.trimB Lib.trimLeftB Lib.trimRightB
 have h1 := dropWhile_le (· == c) l.reverse
 have h2 := dropWhile_le (· == c) (l.reverse.dropWhile (· == c)).reverse
 simp at h1 h2
 simp; omega
theorem cut_le (d : List UInt8) : (Lib.cut d [58]).1.length ≤ d.length ∧ (Lib.cut d [58]).2.1.length ≤ d.length := by
 unfold Lib.cut
 split <;> simp
 omega
theorem take_snoc {α : Type} {xs : List α} {k : Nat} {x : α} (h : xs[k]? = some x) : xs.take (k + 1) = xs.take k ++ [x] := by
 obtain ⟨hk, rfl⟩ := List.getElem?_eq_some_iff.1 h
 exact List.take_succ_eq_append_getElem hk
theorem fm_none {α β γ : Type} {f : α → β} {g : β → Option γ} {xs : List α} {k : Nat} {x : α} (h : xs[k]? = some x) (hg : g (f x) = none) : ((xs.take (k + 1)).map f).filterMap g = ((xs.take k).map f).filterMap g := by
 rw [take_snoc h, List.map_append, List.filterMap_append, List.map_singleton, List.filterMap_cons_none hg, List.filterMap_nil, List.append_nil]
theorem fm_some {α β γ : Type} {f : α → β} {g : β → Option γ} {xs : List α} {k : Nat} {x : α} {y : γ} (h : xs[k]? = some x) (hg : g (f x) = some y) : ((xs.take (k + 1)).map f).filterMap g = ((xs.take k).map f).filterMap g ++ [y] := by
 rw [take_snoc h, List.map_append, List.filterMap_append, List.map_singleton, List.filterMap_cons_some hg, List.filterMap_nil]
def cssSay (st : Int × Int) (on off : Int) : Int × Int := (bits .or .i64 (bits .andNot .i64 st.1 off) on, bits .or .i64 (bits .andNot .i64 st.2 on) off)
def cssStepT (t : List UInt8) (st : Int × Int) (nm vl : List UInt8) : Int × Int :=
 if t = [102, 111, 110, 116, 45, 119, 101, 105, 103, 104, 116, 58, 98, 111, 108, 100] then cssSay st 1 0 else
 if t = [102, 111, 110, 116, 45, 119, 101, 105, 103, 104, 116, 58, 55, 48, 48] then cssSay st 1 0 else
 if t = [102, 111, 110, 116, 45, 119, 101, 105, 103, 104, 116, 58, 110, 111, 114, 109, 97, 108] then cssSay st 0 1 else
 if t = [102, 111, 110, 116, 45, 119, 101, 105, 103, 104, 116, 58, 52, 48, 48] then cssSay st 0 1 else
 if t = [102, 111, 110, 116, 45, 115, 116, 121, 108, 101, 58, 105, 116, 97, 108, 105, 99] then cssSay st 2 0 else
 if t = [102, 111, 110, 116, 45, 115, 116, 121, 108, 101, 58, 110, 111, 114, 109, 97, 108] then cssSay st 0 2 else
 if t = [116, 101, 120, 116, 45, 100, 101, 99, 111, 114, 97, 116, 105, 111, 110, 58, 110, 111, 110, 101] then cssSay st 0 12 else
 if (words vl).2 = true then (if nm = textDeco then cssSay st (words vl).1 (bits .andNot .i64 12 (words vl).1) else st) else st
def cssStep (st : Int × Int) (x : List UInt8 × List UInt8) : Int × Int := cssStepT (x.1 ++ 58 :: x.2) st x.1 x.2
theorem cssT1 {t : List UInt8} {st : Int × Int} {nm vl : List UInt8} (h : t = [102, 111, 110, 116, 45, 119, 101, 105, 103, 104, 116, 58, 98, 111, 108, 100]) : cssStepT t st nm vl = cssSay st 1 0 := by rw [cssStepT, if_pos h]
theorem cssT2 {t : List UInt8} {st : Int × Int} {nm vl : List UInt8} (h1 : ¬ t = [102, 111, 110, 116, 45, 119, 101, 105, 103, 104, 116, 58, 98, 111, 108, 100]) (h : t = [102, 111, 110, 116, 45, 119, 101, 105, 103, 104, 116, 58, 55, 48, 48]) : cssStepT t st nm vl = cssSay st 1 0 := by rw [cssStepT, if_neg h1, if_pos h]
theorem cssT3 {t : List UInt8} {st : Int × Int} {nm vl : List UInt8} (h1 : ¬ t = [102, 111, 110, 116, 45, 119, 101, 105, 103, 104, 116, 58, 98, 111, 108, 100]) (h2 : ¬ t = [102, 111, 110, 116, 45, 119, 101, 105, 103, 104, 116, 58, 55, 48, 48])
  (h : t = [102, 111, 110, 116, 45, 119, 101, 105, 103, 104, 116, 58, 110, 111, 114, 109, 97, 108]) : cssStepT t st nm vl = cssSay st 0 1 := by rw [cssStepT, if_neg h1, if_neg h2, if_pos h]
theorem cssT4 {t : List UInt8} {st : Int × Int} {nm vl : List UInt8} (h1 : ¬ t = [102, 111, 110, 116, 45, 119, 101, 105, 103, 104, 116, 58, 98, 111, 108, 100]) (h2 : ¬ t = [102, 111, 110, 116, 45, 119, 101, 105, 103, 104, 116, 58, 55, 48, 48])
  (h3 : ¬ t = [102, 111, 110, 116, 45, 119, 101, 105, 103, 104, 116, 58, 110, 111, 114, 109, 97, 108]) (h : t = [102, 111, 110, 116, 45, 119, 101, 105, 103, 104, 116, 58, 52, 48, 48]) : cssStepT t st nm vl = cssSay st 0 1 := by
 rw [cssStepT, if_neg h1, if_neg h2, if_neg h3, if_pos h]
theorem cssT5 {t : List UInt8} {st : Int × Int} {nm vl : List UInt8} (h1 : ¬ t = [102, 111, 110, 116, 45, 119, 101, 105, 103, 104, 116, 58, 98, 111, 108, 100]) (h2 : ¬ t = [102, 111, 110, 116, 45, 119, 101, 105, 103, 104, 116, 58, 55, 48, 48])
  (h3 : ¬ t = [102, 111, 110, 116, 45, 119, 101, 105, 103, 104, 116, 58, 110, 111, 114, 109, 97, 108]) (h4 : ¬ t = [102, 111, 110, 116, 45, 119, 101, 105, 103, 104, 116, 58, 52, 48, 48])
  (h : t = [102, 111, 110, 116, 45, 115, 116, 121, 108, 101, 58, 105, 116, 97, 108, 105, 99]) : cssStepT t st nm vl = cssSay st 2 0 := by rw [cssStepT, if_neg h1, if_neg h2, if_neg h3, if_neg h4, if_pos h]
theorem cssT6 {t : List UInt8} {st : Int × Int} {nm vl : List UInt8} (h1 : ¬ t = [102, 111, 110, 116, 45, 119, 101, 105, 103, 104, 116, 58, 98, 111, 108, 100]) (h2 : ¬ t = [102, 111, 110, 116, 45, 119, 101, 105, 103, 104, 116, 58, 55, 48, 48])
  (h3 : ¬ t = [102, 111, 110, 116, 45, 119, 101, 105, 103, 104, 116, 58, 110, 111, 114, 109, 97, 108]) (h4 : ¬ t = [102, 111, 110, 116, 45, 119, 101, 105, 103, 104, 116, 58, 52, 48, 48])
  (h5 : ¬ t = [102, 111, 110, 116, 45, 115, 116, 121, 108, 101, 58, 105, 116, 97, 108, 105, 99]) (h : t = [102, 111, 110, 116, 45, 115, 116, 121, 108, 101, 58, 110, 111, 114, 109, 97, 108]) : cssStepT t st nm vl = cssSay st 0 2 := by
 rw [cssStepT, if_neg h1, if_neg h2, if_neg h3, if_neg h4, if_neg h5, if_pos h]
theorem cssT7 {t : List UInt8} {st : Int × Int} {nm vl : List UInt8} (h1 : ¬ t = [102, 111, 110, 116, 45, 119, 101, 105, 103, 104, 116, 58, 98, 111, 108, 100]) (h2 : ¬ t = [102, 111, 110, 116, 45, 119, 101, 105, 103, 104, 116, 58, 55, 48, 48])
  (h3 : ¬ t = [102, 111, 110, 116, 45, 119, 101, 105, 103, 104, 116, 58, 110, 111, 114, 109, 97, 108]) (h4 : ¬ t = [102, 111, 110, 116, 45, 119, 101, 105, 103, 104, 116, 58, 52, 48, 48])
  (h5 : ¬ t = [102, 111, 110, 116, 45, 115, 116, 121, 108, 101, 58, 105, 116, 97, 108, 105, 99]) (h6 : ¬ t = [102, 111, 110, 116, 45, 115, 116, 121, 108, 101, 58, 110, 111, 114, 109, 97, 108])
  (h : t = [116, 101, 120, 116, 45, 100, 101, 99, 111, 114, 97, 116, 105, 111, 110, 58, 110, 111, 110, 101]) : cssStepT t st nm vl = cssSay st 0 12 := by
 rw [cssStepT, if_neg h1, if_neg h2, if_neg h3, if_neg h4, if_neg h5, if_neg h6, if_pos h]
theorem cssT8 {t : List UInt8} {st : Int × Int} {nm vl : List UInt8} (h1 : ¬ t = [102, 111, 110, 116, 45, 119, 101, 105, 103, 104, 116, 58, 98, 111, 108, 100]) (h2 : ¬ t = [102, 111, 110, 116, 45, 119, 101, 105, 103, 104, 116, 58, 55, 48, 48])
  (h3 : ¬ t = [102, 111, 110, 116, 45, 119, 101, 105, 103, 104, 116, 58, 110, 111, 114, 109, 97, 108]) (h4 : ¬ t = [102, 111, 110, 116, 45, 119, 101, 105, 103, 104, 116, 58, 52, 48, 48])
  (h5 : ¬ t = [102, 111, 110, 116, 45, 115, 116, 121, 108, 101, 58, 105, 116, 97, 108, 105, 99]) (h6 : ¬ t = [102, 111, 110, 116, 45, 115, 116, 121, 108, 101, 58, 110, 111, 114, 109, 97, 108])
  (h7 : ¬ t = [116, 101, 120, 116, 45, 100, 101, 99, 111, 114, 97, 116, 105, 111, 110, 58, 110, 111, 110, 101]) :
  cssStepT t st nm vl = if (words vl).2 = true then (if nm = textDeco then cssSay st (words vl).1 (bits .andNot .i64 12 (words vl).1) else st) else st := by
 rw [cssStepT, if_neg h1, if_neg h2, if_neg h3, if_neg h4, if_neg h5, if_neg h6, if_neg h7]
def cssParse (l : List UInt8) : Int × Int := (decls l).foldl cssStep (0, 0)
end Go.Proofs.Qw
namespace Go.Proofs.Qw
def en (v : BitVec 64) : Int := IntKind.i64.wrap (v.toNat : Int)
theorem of_en (v : BitVec 64) : BitVec.ofInt 64 (en v) = v := by
 apply BitVec.eq_of_toNat_eq
 have := v.isLt
 unfold en
 rw [IntKind.wrap_i64, BitVec.toNat_ofInt]
 omega
theorem en_or (u v : BitVec 64) : bits .or .i64 (en u) (en v) = en (u ||| v) := by
 show IntKind.i64.wrap (((BitVec.ofInt 64 (en u) ||| BitVec.ofInt 64 (en v)).toNat : Nat) : Int) = _
 rw [of_en, of_en]; rfl
theorem en_andNot (u v : BitVec 64) : bits .andNot .i64 (en u) (en v) = en (u &&& ~~~v) := by
 show IntKind.i64.wrap (((BitVec.ofInt 64 (en u) &&& ~~~BitVec.ofInt 64 (en v)).toNat : Nat) : Int) = _
 rw [of_en, of_en]; rfl
theorem en0 : (0 : Int) = en 0#64 := by decide +kernel
theorem en1 : (1 : Int) = en 1#64 := by decide +kernel
theorem en2 : (2 : Int) = en 2#64 := by decide +kernel
theorem en4 : (4 : Int) = en 4#64 := by decide +kernel
theorem en8 : (8 : Int) = en 8#64 := by decide +kernel
theorem en12 : (12 : Int) = en 12#64 := by decide +kernel
abbrev St := BitVec 64 × BitVec 64
def enS (p : St) : Int × Int := (en p.1, en p.2)
def ov (p q : St) : St := (p.1 &&& ~~~q.2 ||| q.1, p.2 &&& ~~~q.1 ||| q.2)
theorem ov_zero (p : St) : ov p (0#64, 0#64) = p := by
 unfold ov
 apply Prod.ext <;> apply BitVec.eq_of_getElem_eq <;> intro i hi <;> simp only [BitVec.getElem_or, BitVec.getElem_and, BitVec.getElem_not, BitVec.getElem_zero]
 ·cases p.1[i] <;> rfl
 ·cases p.2[i] <;> rfl
theorem enS_say (p : St) (on off : BitVec 64) : cssSay (enS p) (en on) (en off) = enS (ov p (on, off)) := by
 unfold cssSay enS ov
 simp only [en_andNot, en_or]
def wordsBGo (b : BitVec 64) (s : Bool) : List (List UInt8) → BitVec 64 × Bool
 | [] => (b, s)
 | w :: r => if w = underline then wordsBGo (b ||| 4#64) true r
  else if w = through then wordsBGo (b ||| 8#64) true r
  else if w = [] then wordsBGo b s r else (0#64, false)
theorem wordsBGo_eq : ∀ (r : List (List UInt8)) (b : BitVec 64) (s : Bool), wordsGo (en b) s r = (en (wordsBGo b s r).1, (wordsBGo b s r).2)
 | [], b, s => rfl
 | w :: r, b, s => by
  unfold wordsGo wordsBGo
  rw [en4, en_or, en8, en_or]
  split
  ·exact wordsBGo_eq r _ _
  ·split
   ·exact wordsBGo_eq r _ _
   ·split
    ·exact wordsBGo_eq r _ _
    ·exact congrArg (·, false) en0
def sub (v m : BitVec 64) : Prop := v &&& ~~~m = 0#64
theorem wordsBGo_sub : ∀ (r : List (List UInt8)) (b : BitVec 64) (s : Bool), sub b 12#64 → sub (wordsBGo b s r).1 12#64
 | [], b, s, h => h
 | w :: r, b, s, h => by
  unfold wordsBGo
  have h4 : sub (b ||| 4#64) 12#64 := by
   unfold sub at h ⊢
   rw [BitVec.and_or_distrib_right, h]; decide
  have h8 : sub (b ||| 8#64) 12#64 := by
   unfold sub at h ⊢
   rw [BitVec.and_or_distrib_right, h]; decide
  split
  ·exact wordsBGo_sub r _ _ h4
  ·split
   ·exact wordsBGo_sub r _ _ h8
   ·split
    ·exact wordsBGo_sub r _ _ h
    ·show sub 0#64 12#64
     unfold sub; decide
def saysB (x : List UInt8 × List UInt8) : St :=
 if x.1 ++ 58 :: x.2 = fontWeight ++ 58 :: bold then (1#64, 0#64) else
 if x.1 ++ 58 :: x.2 = fontWeight ++ 58 :: w700 then (1#64, 0#64) else
 if x.1 ++ 58 :: x.2 = fontWeight ++ 58 :: normal then (0#64, 1#64) else
 if x.1 ++ 58 :: x.2 = fontWeight ++ 58 :: w400 then (0#64, 1#64) else
 if x.1 ++ 58 :: x.2 = fontStyle ++ 58 :: italic then (2#64, 0#64) else
 if x.1 ++ 58 :: x.2 = fontStyle ++ 58 :: normal then (0#64, 2#64) else
 if x.1 ++ 58 :: x.2 = textDeco ++ 58 :: none_ then (0#64, 12#64) else
 if (wordsBGo 0#64 false (splitL 32 x.2)).2 = true then (if x.1 = textDeco then ((wordsBGo 0#64 false (splitL 32 x.2)).1, 12#64 &&& ~~~(wordsBGo 0#64 false (splitL 32 x.2)).1) else (0#64, 0#64)) else (0#64, 0#64)
theorem ite_enS {p a' b' : St} {c : Prop} [Decidable c] {a b : Int × Int} (h1 : a = enS (ov p a')) (h2 : b = enS (ov p b')) : (if c then a else b) = enS (ov p (if c then a' else b')) := by split <;> assumption
theorem step_says (p : St) (x : List UInt8 × List UInt8) : cssStep (enS p) x = enS (ov p (saysB x)) := by
 have hw : words x.2 = (en (wordsBGo 0#64 false (splitL 32 x.2)).1, (wordsBGo 0#64 false (splitL 32 x.2)).2) := by
  unfold words
  rw [en0]; exact wordsBGo_eq _ _ _
 unfold cssStep cssStepT saysB
 rw [hw]
 simp only [fontWeight, fontStyle, textDeco, bold, w700, normal, w400, italic, none_, List.cons_append, List.nil_append]
 rw [en0, en1, en2, en12, en_andNot]
 exact ite_enS (enS_say _ _ _) (ite_enS (enS_say _ _ _) (ite_enS (enS_say _ _ _) (ite_enS (enS_say _ _ _) (ite_enS (enS_say _ _ _) (ite_enS (enS_say _ _ _) (ite_enS (enS_say _ _ _) (ite_enS (ite_enS (enS_say _ _ _) (congrArg enS (ov_zero p).symm)) (congrArg enS (ov_zero p).symm))))))))
def fine (p : St) : Prop := p.1 &&& p.2 = 0#64 ∧ (p.1 ||| p.2) &&& ~~~15#64 = 0#64
theorem fine_bits {p : St} (h : fine p) (i : Nat) (hi : i < 64) : (p.1[i] && p.2[i]) = false ∧ ((p.1[i] || p.2[i]) && !(15#64)[i]) = false := by
 have h1 := congrArg (fun v => v[i]) h.1
 have h2 := congrArg (fun v => v[i]) h.2
 simp only [BitVec.getElem_and, BitVec.getElem_or, BitVec.getElem_not, BitVec.getElem_zero] at h1 h2
 exact ⟨h1, h2⟩
theorem fine_of {p : St} (h : ∀ (i : Nat) (hi : i < 64), (p.1[i] && p.2[i]) = false ∧ ((p.1[i] || p.2[i]) && !(15#64)[i]) = false) : fine p := by
 constructor <;> apply BitVec.eq_of_getElem_eq <;> intro i hi
 ·simpa using (h i hi).1
 ·have := (h i hi).2
  simp only [BitVec.getElem_and, BitVec.getElem_or, BitVec.getElem_not, BitVec.getElem_zero]
  exact this
theorem fine_ov {p q : St} (hp : fine p) (hq : fine q) : fine (ov p q) := by
 refine fine_of fun i hi => ?_
 have h1 := fine_bits hp i hi
 have h2 := fine_bits hq i hi
 unfold ov
 simp only [BitVec.getElem_and, BitVec.getElem_or, BitVec.getElem_not]
 revert h1 h2
 cases p.1[i] <;> cases p.2[i] <;> cases q.1[i] <;> cases q.2[i] <;> cases (15#64)[i] <;> decide
theorem fine_says (x : List UInt8 × List UInt8) : fine (saysB x) := by
 have hs := wordsBGo_sub (splitL 32 x.2) 0#64 false (by unfold sub; decide)
 have h0 : fine (0#64, 0#64) := by unfold fine; decide
 have h1 : fine (1#64, 0#64) := by unfold fine; decide
 have h2 : fine (0#64, 1#64) := by unfold fine; decide
 have h3 : fine (2#64, 0#64) := by unfold fine; decide
 have h4 : fine (0#64, 2#64) := by unfold fine; decide
 have h5 : fine (0#64, 12#64) := by unfold fine; decide
 have h6 : ∀ v : BitVec 64, sub v 12#64 → fine (v, 12#64 &&& ~~~v) := fun v hv => by
  refine fine_of fun i hi => ?_
  have := congrArg (fun v => v[i]) hv
  have h12 : ((12#64)[i] && !(15#64)[i]) = false := by
   have : 12#64 &&& ~~~15#64 = 0#64 := by decide
   have := congrArg (fun v => v[i]) this
   simpa only [BitVec.getElem_and, BitVec.getElem_not, BitVec.getElem_zero] using this
  simp only [BitVec.getElem_and, BitVec.getElem_not, BitVec.getElem_zero] at this ⊢
  revert this h12
  cases v[i] <;> cases (12#64)[i] <;> cases (15#64)[i] <;> decide
 unfold saysB
 split
 ·exact h1
 ·split
  ·exact h1
  ·split
   ·exact h2
   ·split
    ·exact h2
    ·split
     ·exact h3
     ·split
      ·exact h4
      ·split
       ·exact h5
       ·split
        ·split
         ·exact h6 _ hs
         ·exact h0
        ·exact h0
def foldB (p : St) (l : List (List UInt8 × List UInt8)) : St := l.foldl (fun p x => ov p (saysB x)) p
theorem foldB_eq : ∀ (l : List (List UInt8 × List UInt8)) (p : St), l.foldl cssStep (enS p) = enS (foldB p l)
 | [], p => rfl
 | x :: l, p => by
  rw [List.foldl_cons, step_says, foldB_eq l]; rfl
theorem foldB_fine : ∀ (l : List (List UInt8 × List UInt8)) (p : St), fine p → fine (foldB p l)
 | [], _, h => h
 | x :: l, _, h => foldB_fine l _ (fine_ov h (fine_says x))
def parseB (l : List UInt8) : St := foldB (0#64, 0#64) (decls l)
theorem parse_eq (l : List UInt8) : cssParse l = enS (parseB l) := by
 unfold cssParse parseB
 rw [show ((0, 0) : Int × Int) = enS (0#64, 0#64) from Prod.ext en0 en0]
 exact foldB_eq _ _
theorem parse_fine (l : List UInt8) : fine (parseB l) := foldB_fine _ _ (by unfold fine; decide)
end Go.Proofs.Qw
namespace Go.Proofs.Qw
open Go.RowKit
def attrF (ats : List Att) (name : List UInt8) : Option (List UInt8) := (ats.find? fun a => decide (a.name = name)).map (·.value)
def styleN : List UInt8 := [115, 116, 121, 108, 101]
def hrefN : List UInt8 := [104, 114, 101, 102]
def saysN (n : Nod) : Int × Int := if n.tag = 11 then (1, 0) else if n.tag = 12 then (2, 0) else if n.tag = 13 then (4, 0) else if n.tag = 14 then (8, 0) else if n.tag = 15 then cssParse ((attrF n.attrs styleN).getD []) else (0, 0)
def bitsN (n : Nod) (around : Int) : Int := bits .or .i64 (bits .andNot .i64 around (saysN n).2) (saysN n).1
def linkN (n : Nod) (around : List UInt8) : List UInt8 := match attrF n.attrs hrefN with | some h => if n.tag = 10 ∧ targetF h = true then h else around | none => around
theorem says_fine (n : Nod) : ∃ p : St, fine p ∧ saysN n = enS p := by
 have hf : ∀ v : BitVec 64, v &&& ~~~15#64 = 0#64 → fine (v, 0#64) := fun v hv => ⟨by simp, by simpa using hv⟩
 unfold saysN
 split
 ·exact ⟨(1#64, 0#64), hf _ (by decide), by decide +kernel⟩
 ·split
  ·exact ⟨(2#64, 0#64), hf _ (by decide), by decide +kernel⟩
  ·split
   ·exact ⟨(4#64, 0#64), hf _ (by decide), by decide +kernel⟩
   ·split
    ·exact ⟨(8#64, 0#64), hf _ (by decide), by decide +kernel⟩
    ·split
     ·exact ⟨_, parse_fine _, parse_eq _⟩
     ·exact ⟨(0#64, 0#64), hf _ (by decide), by decide +kernel⟩
end Go.Proofs.Qw
namespace Go.Proofs.Qw
open Go.RowKit
def tagC (t : Int) : Int := if t < 0 ∨ 16 < t then 0 else if t = 0 then 1 else if t = 1 ∨ t = 6 ∨ t = 7 ∨ t = 8 then 2 else if (2 ≤ t ∧ t ≤ 5) ∨ t = 9 then 3 else if t = 16 then 5 else 4
def headT (t : Int) : Int := if 3 ≤ t ∧ t ≤ 5 then t - 2 else 0
structure Aro where
 quote : Int
 lists : List Int
 kind : Int
 bits : Int
 href : List UInt8
structure VSt where
 lines : List Lin
 cells : Nat
 opn : Bool
 spot : Int
 pos : Ps
abbrev Plc := Option (List Int × Int)
def frameA (a : Aro) : Lin := ⟨a.quote, a.lists, if a.lists = [] then a.kind else 0, []⟩
def beginV (a : Aro) (s : VSt) : VSt := ⟨s.lines ++ [frameA a], s.cells, true, if s.spot = 1 then 2 else s.spot, if s.spot = 1 then ⟨s.lines.length, 0⟩ else s.pos⟩
def lastD (f : Lin → Lin) (d : List Lin) : List Lin := d.dropLast ++ (d.getLast?.map f).toList
def addV (a : Aro) (c : Int) (s : VSt) : VSt := { s with lines := lastD (fun l => { l with cells := l.cells ++ [⟨c, a.bits, a.href⟩] }) s.lines, cells := s.cells + 1 }
def putV (a : Aro) (c : Int) (s : VSt) : VSt := addV a c (if s.opn = true then s else beginV a s)
def metV (s : VSt) : VSt := if s.spot ≠ 0 then s else if s.opn = true then { s with spot := 2, pos := ⟨(s.lines.length : Int) - 1, ((s.lines.getLastD default).cells.length : Int)⟩ } else { s with spot := 1 }
def flatR (l : List Int) : List Int := l.filterMap flatC
def textV (a : Aro) : List Int → Option Int → VSt → VSt
 | [], at_, s => match at_ with | some k => if 0 ≤ k then metV s else s | none => s
 | c :: l, at_, s =>
  let s := if at_ = some 0 then metV s else s
  textV a l (at_.map (· - 1)) (match flatC c with | some c => putV a c s | none => s)
def asideT (t : Int) : Bool := decide (tagC t = 1) || decide (tagC t = 5)
def normP (t : Int) (n : Nat) : Plc → Plc
 | none => none
 | some ([], k) => some ([], if k < 0 then 0 else k)
 | some (i :: p, k) => if asideT t = true ∨ i < 0 ∨ (n : Int) ≤ i then some ([], 0) else if k < 0 then some (i :: p, 0) else some (i :: p, k)
def boxA (t : Int) (a : Aro) : Aro := if t = 6 then { a with quote := min (a.quote + 1) 6 } else if t ≠ 1 ∧ a.lists.length < 6 then { a with lists := a.lists ++ [t - 7] } else a
mutual
def nodeV : Nod → Aro → Plc → VSt → VSt
 | .mk t ats x ks, a, p0, s =>
  let p := normP t ks.length p0
  if tagC t = 1 then textV a (runesB ⟨x.toArray⟩) (p.map (·.2)) s
  else if tagC t = 5 then putV a 10 (if p.isSome = true then metV s else s)
  else if tagC t = 3 then
   let s1 : VSt := { s with opn := false }
   let a1 : Aro := { a with kind := headT t }
   let s2 := kidsV ks 0 a1 p s1
   let s3 := if s2.lines.length = s.lines.length then beginV a1 s2 else s2
   { s3 with opn := false }
  else if tagC t = 2 then
   let s2 := kidsV ks 0 (boxA t a) p { s with opn := false }
   { s2 with opn := false }
  else kidsV ks 0 { a with bits := bitsN (.mk t ats x ks) a.bits, href := linkN (.mk t ats x ks) a.href } p s
def kidsV : List Nod → Nat → Aro → Plc → VSt → VSt
 | [], _, _, p, s => match p with | some ([], _) => metV s | _ => s
 | k :: ks, i, a, p, s =>
  kidsV ks (i + 1) a p (match p with
   | none => nodeV k a none s
   | some ([], at_) => nodeV k a none (if at_ = i then metV s else s)
   | some (j :: path, at_) => if j = i then nodeV k a (some (path, at_)) s else nodeV k a none s)
end
def aro0 : Aro := ⟨0, [], 0, 0, []⟩
def vst0 : VSt := ⟨[], 0, false, 0, ⟨0, 0⟩⟩
def goesV (n : Nod) (p : Plc) : VSt := let s := nodeV n aro0 p vst0; if s.lines = [] then beginV aro0 s else s
def longV (s : VSt) : Bool := decide (200 < s.lines.length) || decide (4000 < s.cells)
def viewN (n : Nod) : List Lin × Int := if longV (goesV n none) = true then ([], 10) else ((goesV n none).lines, 0)
def posN (n : Nod) (p : List Int × Int) : Ps × Int := let s := goesV n (some p); if longV s = true then (⟨0, 0⟩, 10) else if s.spot = 1 then (⟨(s.lines.length : Int) - 1, ((s.lines.getLastD default).cells.length : Int)⟩, 0) else (s.pos, 0)
end Go.Proofs.Qw
namespace Go.Proofs.Qw
open Go.RowKit
structure Ev where
 act : Int
 frame : Lin
 cell : Cel
def ev (k : Int) (f : Lin) : Ev := ⟨k, f, ⟨0, 0, []⟩⟩
def lin0 : Lin := ⟨0, [], 0, []⟩
def evP (a : Aro) (c : Int) : Ev := ⟨0, frameA a, ⟨c, a.bits, a.href⟩⟩
def evT (a : Aro) : List Int → Option Int → List Ev
 | [], k => match k with | some k => if 0 ≤ k then [ev 4 lin0] else [] | none => []
 | c :: l, k => (if k = some 0 then [ev 4 lin0] else []) ++ ((flatC c).map (evP a)).toList ++ evT a l (k.map (· - 1))
def boxR (t : Int) (a : Aro) : Aro :=
 let b : Aro := if t = 6 ∧ a.quote < 6 then { a with quote := a.quote + 1 } else a
 if (t = 7 ∨ t = 8) ∧ b.lists.length < 6 then { b with lists := b.lists ++ [t - 7] } else b
def innerA (n : Nod) (a : Aro) : Aro := if tagC n.tag = 4 then { a with bits := bitsN n a.bits, href := linkN n a.href } else if tagC n.tag = 3 then { a with kind := headT n.tag } else if tagC n.tag = 2 then boxR n.tag a else a
mutual
def evN : Nod → Aro → Plc → List Ev
 | .mk t ats x ks, a, p =>
  if tagC t = 1 then evT a (runesB ⟨x.toArray⟩) (p.map (·.2))
  else if tagC t = 5 then (if p.isSome = true then [ev 4 lin0] else []) ++ [evP a 10]
  else (if tagC t = 3 then [ev 1 lin0, ev 2 (frameA (innerA (.mk t ats x ks) a))] else if tagC t = 2 then [ev 1 lin0] else []) ++ evK ks 0 (innerA (.mk t ats x ks) a) p ++
   (if tagC t = 3 then [ev 3 (frameA (innerA (.mk t ats x ks) a)), ev 1 lin0] else if tagC t = 2 then [ev 1 lin0] else [])
def evK : List Nod → Nat → Aro → Plc → List Ev
 | [], i, _, p => match p with | some ([], k) => if (i : Int) ≤ k then [ev 4 lin0] else [] | _ => []
 | n :: ks, i, a, p => (match p with | none => evN n a none | some ([], k) => (if k = i then [ev 4 lin0] else []) ++ evN n a none | some (j :: q, k) => if j = i then evN n a (some (q, k)) else evN n a none) ++ evK ks (i + 1) a p
end
structure TSt where
 d : List Lin
 begun : List Nat
 pos : Ps
 opn : Bool
 waits : Bool
 known : Bool
def addE (c : Cel) (d : List Lin) : List Lin := lastD (fun l => { l with cells := l.cells ++ [c] }) d
def beginE (f : Lin) (t : TSt) : TSt := { t with d := t.d ++ [f], opn := true, pos := if (t.waits && !t.known) = true then ⟨t.d.length, 0⟩ else t.pos, known := t.known || t.waits }
def stepE (t : TSt) (x : Ev) : TSt :=
 if x.act = 0 then let u := if t.opn = true then t else beginE x.frame t; { u with d := addE x.cell u.d }
 else if x.act = 1 then { t with opn := false }
 else if x.act = 2 then { t with begun := t.begun ++ [t.d.length] }
 else if x.act = 3 then let u := { t with begun := t.begun.dropLast }; if t.begun.getLast? = some t.d.length then beginE x.frame u else u
 else if t.opn = true then { t with pos := ⟨(t.d.length : Int) - 1, ((t.d.getLastD default).cells.length : Int)⟩, known := true } else { t with waits := true }
def runE (l : List Ev) (t : TSt) : TSt := l.foldl stepE t
theorem run_app (l m : List Ev) (t : TSt) : runE (l ++ m) t = runE m (runE l t) := by unfold runE; rw [List.foldl_append]
theorem run_nil (t : TSt) : runE [] t = t := rfl
theorem run_cons (x : Ev) (l : List Ev) (t : TSt) : runE (x :: l) t = runE l (stepE t x) := rfl
def sizeL (d : List Lin) : Nat := (d.map (·.cells.length)).sum
structure TR (t : TSt) (s : VSt) : Prop where
 d : t.d = s.lines
 opn : t.opn = s.opn
 some : s.opn = true → s.lines ≠ []
 cells : s.cells = sizeL s.lines
 spot : (s.spot = 0 ∧ t.waits = false ∧ t.known = false) ∨ (s.spot = 1 ∧ t.waits = true ∧ t.known = false) ∨ (s.spot = 2 ∧ t.known = true ∧ t.pos = s.pos)
theorem tr_close {t : TSt} {s : VSt} (h : TR t s) : TR (stepE t (ev 1 lin0)) { s with opn := false } := ⟨h.d, rfl, (fun e => by cases e), h.cells, h.spot⟩
theorem tr_met {t : TSt} {s : VSt} (h : TR t s) (h0 : s.spot = 0) : TR (stepE t (ev 4 lin0)) (metV s) ∧ (metV s).spot ≠ 0 ∧ (stepE t (ev 4 lin0)).begun = t.begun := by
 have e1 : stepE t (ev 4 lin0) = if t.opn = true then { t with pos := ⟨(t.d.length : Int) - 1, ((t.d.getLastD default).cells.length : Int)⟩, known := true } else { t with waits := true } := rfl
 have e2 : metV s = if s.opn = true then { s with spot := 2, pos := ⟨(s.lines.length : Int) - 1, ((s.lines.getLastD default).cells.length : Int)⟩ } else { s with spot := 1 } := by unfold metV; rw [if_neg (by simp [h0])]
 rw [e1, e2, h.opn]
 have hw : t.waits = false ∧ t.known = false := by
  rcases h.spot with h1 | h1 | h1
  ·exact h1.2
  ·exfalso; have := h1.1; omega
  ·exfalso; have := h1.1; omega
 by_cases ho : s.opn = true
 ·rw [if_pos ho, if_pos ho]
  exact ⟨⟨h.d, rfl, h.some, h.cells, .inr (.inr ⟨rfl, rfl, by simp [h.d]⟩)⟩, by simp, rfl⟩
 ·rw [if_neg ho, if_neg ho]
  exact ⟨⟨h.d, rfl, h.some, h.cells, .inr (.inl ⟨rfl, rfl, hw.2⟩)⟩, by simp, rfl⟩
theorem tr_begin {t : TSt} {s : VSt} (h : TR t s) (a : Aro) : TR (beginE (frameA a) t) (beginV a s) ∧ ((beginV a s).spot = 0 ↔ s.spot = 0) := by
 refine ⟨⟨by simp [beginE, beginV, h.d], rfl, fun _ => by simp [beginV], ?_, ?_⟩, ?_⟩
 ·unfold beginV
  simp only [h.cells, sizeL, List.map_append, List.sum_append]
  simp [frameA]
 ·unfold beginE beginV
  rcases h.spot with ⟨h1, h2, h3⟩ | ⟨h1, h2, h3⟩ | ⟨h1, h2, h3⟩
  ·left; simp [h1, h2, h3]
  ·right; right; simp [h1, h2, h3, h.d]
  ·right; right; simp [h1, h2, h3]
 ·unfold beginV
  simp only
  split <;> omega
theorem lastD_size (c : Cel) {d : List Lin} (h : d ≠ []) : sizeL (addE c d) = sizeL d + 1 ∧ addE c d ≠ [] := by
 obtain ⟨m, l, rfl⟩ : ∃ m l, d = m ++ [l] := ⟨d.dropLast, d.getLast h, (List.dropLast_concat_getLast h).symm⟩
 unfold addE lastD sizeL
 simp
 omega
theorem tr_put {t : TSt} {s : VSt} (h : TR t s) (a : Aro) (c : Int) : TR (stepE t (evP a c)) (putV a c s) ∧ (stepE t (evP a c)).begun = t.begun ∧ ((putV a c s).spot = 0 ↔ s.spot = 0) := by
 have go : ∀ {t : TSt} {s : VSt}, TR t s → s.opn = true → TR { t with d := addE ⟨c, a.bits, a.href⟩ t.d } (addV a c s) := by
  intro t s h ho
  have hs := lastD_size ⟨c, a.bits, a.href⟩ (h.some ho)
  exact ⟨by simp only [addV, h.d]; rfl, h.opn, fun _ => hs.2, by have := h.cells; have := hs.1; show s.cells + 1 = sizeL (addE ⟨c, a.bits, a.href⟩ s.lines); omega, h.spot⟩
 have e1 : stepE t (evP a c) = (let u := if t.opn = true then t else beginE (frameA a) t; { u with d := addE ⟨c, a.bits, a.href⟩ u.d }) := rfl
 rw [e1]
 unfold putV
 rw [h.opn]
 by_cases ho : s.opn = true
 ·rw [if_pos ho, if_pos ho]
  exact ⟨go h ho, rfl, Iff.rfl⟩
 ·rw [if_neg ho, if_neg ho]
  exact ⟨go (tr_begin h a).1 rfl, rfl, (tr_begin h a).2⟩
def Goes (l : List Ev) (f : VSt → VSt) : Prop := ∀ t s, TR t s → TR (runE l t) (f s) ∧ (runE l t).begun = t.begun ∧ ((f s).spot = 0 ↔ s.spot = 0)
def Meets (l : List Ev) (f : VSt → VSt) : Prop := ∀ t s, TR t s → s.spot = 0 → TR (runE l t) (f s) ∧ (runE l t).begun = t.begun ∧ (f s).spot ≠ 0
theorem Goes.then {l m : List Ev} {f g : VSt → VSt} (h : Goes l f) (k : Goes m g) : Goes (l ++ m) (fun s => g (f s)) := fun t s ht => by
 rw [run_app]
 obtain ⟨h1, h2, h3⟩ := h t s ht
 obtain ⟨k1, k2, k3⟩ := k _ _ h1
 exact ⟨k1, k2.trans h2, k3.trans h3⟩
theorem Goes.meets {l m : List Ev} {f g : VSt → VSt} (h : Goes l f) (k : Meets m g) : Meets (l ++ m) (fun s => g (f s)) := fun t s ht h0 => by
 rw [run_app]
 obtain ⟨h1, h2, h3⟩ := h t s ht
 obtain ⟨k1, k2, k3⟩ := k _ _ h1 (h3.2 h0)
 exact ⟨k1, k2.trans h2, k3⟩
theorem Meets.goes {l m : List Ev} {f g : VSt → VSt} (h : Meets l f) (k : Goes m g) : Meets (l ++ m) (fun s => g (f s)) := fun t s ht h0 => by
 rw [run_app]
 obtain ⟨h1, h2, h3⟩ := h t s ht h0
 obtain ⟨k1, k2, k3⟩ := k _ _ h1
 exact ⟨k1, k2.trans h2, fun e => h3 (k3.1 e)⟩
theorem goes_nil : Goes [] (fun s => s) := fun _ _ h => ⟨h, rfl, Iff.rfl⟩
theorem goes_put (a : Aro) (c : Int) : Goes [evP a c] (putV a c) := fun t s h => by
 have := tr_put h a c
 exact ⟨this.1, this.2.1, this.2.2⟩
theorem goes_close : Goes [ev 1 lin0] (fun s => { s with opn := false }) := fun _ _ h => ⟨tr_close h, rfl, Iff.rfl⟩
theorem meets_met : Meets [ev 4 lin0] metV := fun t s h h0 => by
 have := tr_met h h0
 exact ⟨this.1, this.2.2, this.2.1⟩
theorem goes_text (a : Aro) : ∀ (l : List Int), Goes (evT a l none) (textV a l none)
 | [] => fun t s h => ⟨h, rfl, Iff.rfl⟩
 | c :: l => by
  have ih := goes_text a l
  have e1 : evT a (c :: l) none = ((flatC c).map (evP a)).toList ++ evT a l none := by rw [evT]; simp
  have e2 : textV a (c :: l) none = fun s => textV a l none (match flatC c with | some c => putV a c s | none => s) := by
   funext s; rw [textV]; rfl
  rw [e1, e2]
  cases flatC c with
  | none => simpa using ih
  | some k => exact (goes_put a k).then ih
theorem gone_text (a : Aro) : ∀ (l : List Int) (k : Int), k < 0 → Goes (evT a l (some k)) (textV a l (some k))
 | [], k, h => fun t s ht => by
  have e1 : evT a [] (some k) = [] := by rw [evT]; simp; omega
  have e2 : textV a [] (some k) s = s := by rw [textV]; simp; omega
  rw [e1, e2]
  exact ⟨ht, rfl, Iff.rfl⟩
 | c :: l, k, h => by
  have ih := gone_text a l (k - 1) (by omega)
  have hk : (some k = some (0 : Int)) = False := by simp; omega
  have e1 : evT a (c :: l) (some k) = ((flatC c).map (evP a)).toList ++ evT a l (some (k - 1)) := by rw [evT]; simp [hk]
  have e2 : textV a (c :: l) (some k) = fun s => textV a l (some (k - 1)) (match flatC c with | some c => putV a c s | none => s) := by
   funext s; rw [textV]; simp [hk] <;> rfl
  rw [e1, e2]
  cases flatC c with
  | none => simpa using ih
  | some k => exact (goes_put a k).then ih
theorem meets_text (a : Aro) : ∀ (l : List Int) (k : Int), 0 ≤ k → Meets (evT a l (some k)) (textV a l (some k))
 | [], k, h => fun t s ht h0 => by
  have e1 : evT a [] (some k) = [ev 4 lin0] := by rw [evT]; simp; omega
  have e2 : textV a [] (some k) s = metV s := by rw [textV]; simp; omega
  rw [e1, e2]
  exact meets_met t s ht h0
 | c :: l, k, h => by
  by_cases hz : k = 0
  ·subst hz
   have ih := gone_text a l (-1) (by omega)
   have e1 : evT a (c :: l) (some 0) = [ev 4 lin0] ++ (((flatC c).map (evP a)).toList ++ evT a l (some (-1))) := by rw [evT]; simp
   have e2 : textV a (c :: l) (some 0) = fun s => textV a l (some (-1)) (match flatC c with | some c => putV a c (metV s) | none => metV s) := by
    funext s; rw [textV]; simp <;> rfl
   rw [e1, e2]
   cases flatC c with
   | none => exact meets_met.goes (by simpa using ih)
   | some k => exact meets_met.goes ((goes_put a k).then ih)
  ·have ih := meets_text a l (k - 1) (by omega)
   have hk : (some k = some (0 : Int)) = False := by simp [hz]
   have e1 : evT a (c :: l) (some k) = ((flatC c).map (evP a)).toList ++ evT a l (some (k - 1)) := by rw [evT]; simp [hk]
   have e2 : textV a (c :: l) (some k) = fun s => textV a l (some (k - 1)) (match flatC c with | some c => putV a c s | none => s) := by
    funext s; rw [textV]; simp [hk] <;> rfl
   rw [e1, e2]
   cases flatC c with
   | none => simpa using ih
   | some k => exact (goes_put a k).meets ih
def reachN : Nod → List Int → Nat × Nod
 | n, [] => (0, n)
 | n, i :: p => if asideT n.tag = true ∨ i < 0 ∨ (n.kids.length : Int) ≤ i then (0, n) else ((reachN (n.kids.getD i.toNat default) p).1 + 1, (reachN (n.kids.getD i.toNat default) p).2)
def refP (n : Nod) : Plc → Plc
 | none => none
 | some (p, k) => some (p.take (reachN n p).1, if (reachN n p).1 < p.length ∨ k < 0 then 0 else k)
def AroOk (a : Aro) : Prop := 0 ≤ a.quote ∧ a.quote ≤ 6 ∧ 0 ≤ a.bits ∧ a.bits ≤ 15
theorem inner_mk (t : Int) (ats : List Att) (x : List UInt8) (ks : List Nod) (a : Aro) : innerA (.mk t ats x ks) a = if tagC t = 4 then { a with bits := bitsN (.mk t ats x ks) a.bits, href := linkN (.mk t ats x ks) a.href } else if tagC t = 3 then { a with kind := headT t } else if tagC t = 2 then boxR t a else a := rfl
theorem says_mk (t : Int) (ats : List Att) (x : List UInt8) (ks : List Nod) : saysN (.mk t ats x ks) = if t = 11 then (1, 0) else if t = 12 then (2, 0) else if t = 13 then (4, 0) else if t = 14 then (8, 0) else if t = 15 then cssParse ((attrF ats styleN).getD []) else (0, 0) := rfl
theorem link_mk (t : Int) (ats : List Att) (x : List UInt8) (ks : List Nod) (l : List UInt8) : linkN (.mk t ats x ks) l = match attrF ats hrefN with | some h => if t = 10 ∧ targetF h = true then h else l | none => l := rfl
theorem bitsN_rng (n : Nod) {g : Int} (h0 : 0 ≤ g) (h1 : g ≤ 15) : 0 ≤ bitsN n g ∧ bitsN n g ≤ 15 := by
 obtain ⟨p, hf, e⟩ := says_fine n
 have hp : ∃ a b : Fin 16, saysN n = ((a.val : Int), (b.val : Int)) := by
  have key : ∀ v : BitVec 64, v &&& ~~~15#64 = 0#64 → ∃ a : Fin 16, en v = (a.val : Int) := by
   intro v hv
   have hle : v.toNat < 16 := by
    have : v = v &&& 15#64 := by
     apply BitVec.eq_of_getElem_eq
     intro i hi
     have := congrArg (fun x : BitVec 64 => x[i]) hv
     simp only [BitVec.getElem_and, BitVec.getElem_not, BitVec.getElem_zero] at this ⊢
     cases hx : v[i] <;> cases hy : (15#64)[i] <;> simp_all
    rw [this, BitVec.toNat_and]
    exact Nat.lt_of_le_of_lt Nat.and_le_right (by decide)
   refine ⟨⟨v.toNat, hle⟩, ?_⟩
   unfold en
   simp [IntKind.wrap, IntKind.signed, IntKind.bits]
   omega
  have h2 := hf.2
  have ha : p.1 &&& ~~~15#64 = 0#64 := by
   apply BitVec.eq_of_getElem_eq
   intro i hi
   have := congrArg (fun x : BitVec 64 => x[i]) h2
   simp only [BitVec.getElem_and, BitVec.getElem_or, BitVec.getElem_not, BitVec.getElem_zero] at this ⊢
   cases hx : p.1[i] <;> cases hy : (15#64)[i] <;> simp_all
  have hb : p.2 &&& ~~~15#64 = 0#64 := by
   apply BitVec.eq_of_getElem_eq
   intro i hi
   have := congrArg (fun x : BitVec 64 => x[i]) h2
   simp only [BitVec.getElem_and, BitVec.getElem_or, BitVec.getElem_not, BitVec.getElem_zero] at this ⊢
   cases hx : p.2[i] <;> cases hy : (15#64)[i] <;> simp_all
  obtain ⟨a, ha⟩ := key _ ha
  obtain ⟨b, hb⟩ := key _ hb
  exact ⟨a, b, by rw [e, enS, ha, hb]⟩
 obtain ⟨a, b, e2⟩ := hp
 unfold bitsN
 rw [e2]
 have : ∀ x y z : Fin 16, 0 ≤ bits .or .i64 (bits .andNot .i64 (x.val : Int) (y.val : Int)) (z.val : Int) ∧ bits .or .i64 (bits .andNot .i64 (x.val : Int) (y.val : Int)) (z.val : Int) ≤ 15 := by decide +kernel
 have h := this ⟨g.toNat, by omega⟩ b a
 simp only [Int.toNat_of_nonneg h0] at h
 exact h
theorem bits_same {g : Int} (h0 : 0 ≤ g) (h1 : g ≤ 15) : bits .or .i64 (bits .andNot .i64 g 0) 0 = g := by
 have : ∀ x : Fin 16, bits .or .i64 (bits .andNot .i64 (x.val : Int) 0) 0 = (x.val : Int) := by decide +kernel
 have h := this ⟨g.toNat, by omega⟩
 simp only [Int.toNat_of_nonneg h0] at h
 exact h
theorem inner_ok (n : Nod) {a : Aro} (h : AroOk a) : AroOk (innerA n a) := by
 obtain ⟨h1, h2, h3, h4⟩ := h
 unfold innerA
 split
 ·exact ⟨h1, h2, (bitsN_rng n h3 h4).1, (bitsN_rng n h3 h4).2⟩
 ·split
  ·exact ⟨h1, h2, h3, h4⟩
  ·split
   ·unfold boxR
    simp only
    split <;> split <;> exact ⟨by first | omega | (simp only; omega), by first | omega | (simp only; omega), h3, h4⟩
   ·exact ⟨h1, h2, h3, h4⟩
theorem class_in {t : Int} (h4 : ¬ tagC t = 4) : t ≠ 10 ∧ t ≠ 11 ∧ t ≠ 12 ∧ t ≠ 13 ∧ t ≠ 14 ∧ t ≠ 15 := by
 refine ⟨?_, ?_, ?_, ?_, ?_, ?_⟩ <;> rintro rfl <;> exact h4 (by decide)
theorem inner_none {t : Int} {ats : List Att} {x : List UInt8} {ks : List Nod} {a : Aro} (ha : AroOk a) (h2 : ¬ tagC t = 2) (h3 : ¬ tagC t = 3) :
  ({ a with bits := bitsN (.mk t ats x ks) a.bits, href := linkN (.mk t ats x ks) a.href } : Aro) = innerA (.mk t ats x ks) a := by
 rw [inner_mk]
 by_cases h4 : tagC t = 4
 ·rw [if_pos h4]
 ·rw [if_neg h4, if_neg h3, if_neg h2]
  obtain ⟨c0, c1, c2, c3, c4, c5⟩ := class_in h4
  have e1 : bitsN (.mk t ats x ks) a.bits = a.bits := by
   unfold bitsN
   rw [says_mk, if_neg c1, if_neg c2, if_neg c3, if_neg c4, if_neg c5]
   exact bits_same ha.2.2.1 ha.2.2.2
  have e2 : linkN (.mk t ats x ks) a.href = a.href := by
   rw [link_mk]
   simp only [c0, false_and, if_false]
   split <;> rfl
  rw [e1, e2]
theorem inner_box {t : Int} {ats : List Att} {x : List UInt8} {ks : List Nod} {a : Aro} (ha : AroOk a) (h : tagC t = 2) : boxA t a = innerA (.mk t ats x ks) a := by
 have ht : t = 1 ∨ t = 6 ∨ t = 7 ∨ t = 8 := by
  unfold tagC at h
  split at h
  ·cases h
  ·split at h
   ·cases h
   ·split at h
    ·rename_i h1; exact h1
    ·split at h
     ·cases h
     ·split at h <;> cases h
 rw [inner_mk, if_neg (by omega), if_neg (by omega), if_pos h]
 unfold boxA boxR
 have := ha.2.1
 rcases ht with rfl | rfl | rfl | rfl
 ·simp
 ·simp only [if_true, true_and]
  by_cases hq : a.quote < 6
  ·rw [if_pos hq]
   simp
   omega
  ·rw [if_neg hq]
   simp
   have : a.quote = 6 := by omega
   rw [this]
   simp
   cases a
   simp_all
   try rfl
 ·simp
 ·simp
def lineV (a1 : Aro) (f : VSt → VSt) (s : VSt) : VSt :=
 let s2 := f { s with opn := false }
 { (if s2.lines.length = s.lines.length then beginV a1 s2 else s2) with opn := false }
theorem run_line {a1 : Aro} {L : List Ev} {f : VSt → VSt} {t : TSt} {s : VSt} (ht : TR t s)
  (hk : TR (runE L (stepE (stepE t (ev 1 lin0)) (ev 2 (frameA a1)))) (f { s with opn := false }) ∧ (runE L (stepE (stepE t (ev 1 lin0)) (ev 2 (frameA a1)))).begun = (stepE (stepE t (ev 1 lin0)) (ev 2 (frameA a1))).begun) :
  TR (runE ([ev 1 lin0, ev 2 (frameA a1)] ++ L ++ [ev 3 (frameA a1), ev 1 lin0]) t) (lineV a1 f s) ∧ (runE ([ev 1 lin0, ev 2 (frameA a1)] ++ L ++ [ev 3 (frameA a1), ev 1 lin0]) t).begun = t.begun ∧ ((lineV a1 f s).spot = 0 ↔ (f { s with opn := false }).spot = 0) := by
 rw [run_app, run_app]
 simp only [run_cons, run_nil]
 generalize hu : runE L (stepE (stepE t (ev 1 lin0)) (ev 2 (frameA a1))) = u at *
 obtain ⟨h1, h2⟩ := hk
 have hb : u.begun = t.begun ++ [t.d.length] := h2
 have e3 : stepE u (ev 3 (frameA a1)) = if u.begun.getLast? = some u.d.length then beginE (frameA a1) { u with begun := u.begun.dropLast } else { u with begun := u.begun.dropLast } := rfl
 rw [e3, hb]
 simp only [List.getLast?_append, List.getLast?_singleton, Option.some_or, List.dropLast_concat, Option.some.injEq]
 unfold lineV
 simp only
 have hd : t.d.length = u.d.length ↔ (f { s with opn := false }).lines.length = s.lines.length := by rw [ht.d, h1.d]; exact ⟨Eq.symm, Eq.symm⟩
 have h1' : TR { u with begun := t.begun } (f { s with opn := false }) := ⟨h1.d, h1.opn, h1.some, h1.cells, h1.spot⟩
 by_cases he : t.d.length = u.d.length
 ·rw [if_pos he, if_pos (hd.1 he)]
  exact ⟨tr_close (tr_begin h1' a1).1, rfl, (tr_begin h1' a1).2⟩
 ·rw [if_neg he, if_neg (fun e => he (hd.2 e))]
  exact ⟨tr_close h1', rfl, Iff.rfl⟩
theorem tr_two {t : TSt} {s : VSt} (ht : TR t s) (f : Lin) : TR (stepE (stepE t (ev 1 lin0)) (ev 2 f)) { s with opn := false } := ⟨ht.d, rfl, (fun e => by cases e), ht.cells, ht.spot⟩
theorem Goes.line {a1 : Aro} {L : List Ev} {f : VSt → VSt} (h : Goes L f) : Goes ([ev 1 lin0, ev 2 (frameA a1)] ++ L ++ [ev 3 (frameA a1), ev 1 lin0]) (lineV a1 f) := fun t s ht => by
 obtain ⟨h1, h2, h3⟩ := h _ _ (tr_two ht (frameA a1))
 obtain ⟨k1, k2, k3⟩ := run_line (a1 := a1) ht ⟨h1, h2⟩
 exact ⟨k1, k2, k3.trans h3⟩
theorem Meets.line {a1 : Aro} {L : List Ev} {f : VSt → VSt} (h : Meets L f) : Meets ([ev 1 lin0, ev 2 (frameA a1)] ++ L ++ [ev 3 (frameA a1), ev 1 lin0]) (lineV a1 f) := fun t s ht h0 => by
 obtain ⟨h1, h2, h3⟩ := h _ _ (tr_two ht (frameA a1)) h0
 obtain ⟨k1, k2, k3⟩ := run_line (a1 := a1) ht ⟨h1, h2⟩
 exact ⟨k1, k2, fun e => h3 (k3.1 e)⟩
def boxV (f : VSt → VSt) (s : VSt) : VSt := { (f { s with opn := false }) with opn := false }
theorem Goes.box {L : List Ev} {f : VSt → VSt} (h : Goes L f) : Goes ([ev 1 lin0] ++ L ++ [ev 1 lin0]) (boxV f) := (goes_close.then h).then goes_close
theorem Meets.box {L : List Ev} {f : VSt → VSt} (h : Meets L f) : Meets ([ev 1 lin0] ++ L ++ [ev 1 lin0]) (boxV f) := (goes_close.meets h).goes goes_close
theorem node_shape {t : Int} {ats : List Att} {x : List UInt8} {ks : List Nod} {a : Aro} (ha : AroOk a) (h1 : ¬ tagC t = 1) (h5 : ¬ tagC t = 5) (p : Plc) :
  nodeV (.mk t ats x ks) a p = (if tagC t = 3 then lineV (innerA (.mk t ats x ks) a) (kidsV ks 0 (innerA (.mk t ats x ks) a) (normP t ks.length p)) else if tagC t = 2 then boxV (kidsV ks 0 (innerA (.mk t ats x ks) a) (normP t ks.length p)) else kidsV ks 0 (innerA (.mk t ats x ks) a) (normP t ks.length p)) := by
 funext s
 rw [nodeV]
 simp only [if_neg h1, if_neg h5]
 by_cases h3 : tagC t = 3
 ·rw [if_pos h3, if_pos h3]
  have e : innerA (.mk t ats x ks) a = { a with kind := headT t } := by
   rw [inner_mk, if_neg (by omega), if_pos h3]
  rw [e]
  rfl
 ·rw [if_neg h3, if_neg h3]
  by_cases h2 : tagC t = 2
  ·rw [if_pos h2, if_pos h2, inner_box ha h2]
   rfl
  ·rw [if_neg h2, if_neg h2, inner_none ha h2 h3]
theorem ev_shape {t : Int} {ats : List Att} {x : List UInt8} {ks : List Nod} {a : Aro} (h1 : ¬ tagC t = 1) (h5 : ¬ tagC t = 5) (p : Plc) {f : VSt → VSt} :
  (Goes (evK ks 0 (innerA (.mk t ats x ks) a) p) f → Goes (evN (.mk t ats x ks) a p) (if tagC t = 3 then lineV (innerA (.mk t ats x ks) a) f else if tagC t = 2 then boxV f else f)) ∧
  (Meets (evK ks 0 (innerA (.mk t ats x ks) a) p) f → Meets (evN (.mk t ats x ks) a p) (if tagC t = 3 then lineV (innerA (.mk t ats x ks) a) f else if tagC t = 2 then boxV f else f)) := by
 rw [evN]
 simp only [if_neg h1, if_neg h5]
 by_cases h3 : tagC t = 3
 ·simp only [if_pos h3]
  exact ⟨Goes.line, Meets.line⟩
 ·simp only [if_neg h3]
  by_cases h2 : tagC t = 2
  ·simp only [if_pos h2]
   exact ⟨Goes.box, Meets.box⟩
  ·simp only [if_neg h2, List.nil_append, List.append_nil]
   exact ⟨id, id⟩
def Gone (l : List Ev) (f : VSt → VSt) : Prop := ∀ t s, TR t s → s.spot ≠ 0 → TR (runE l t) (f s) ∧ (runE l t).begun = t.begun ∧ (f s).spot ≠ 0
theorem Goes.gone {l : List Ev} {f : VSt → VSt} (h : Goes l f) : Gone l f := fun t s ht h0 => by
 obtain ⟨h1, h2, h3⟩ := h t s ht
 exact ⟨h1, h2, fun e => h0 (h3.1 e)⟩
theorem Gone.then {l m : List Ev} {f g : VSt → VSt} (h : Gone l f) (k : Gone m g) : Gone (l ++ m) (fun s => g (f s)) := fun t s ht h0 => by
 rw [run_app]
 obtain ⟨h1, h2, h3⟩ := h t s ht h0
 obtain ⟨k1, k2, k3⟩ := k _ _ h1 h3
 exact ⟨k1, k2.trans h2, k3⟩
theorem Meets.then {l m : List Ev} {f g : VSt → VSt} (h : Meets l f) (k : Gone m g) : Meets (l ++ m) (fun s => g (f s)) := fun t s ht h0 => by
 rw [run_app]
 obtain ⟨h1, h2, h3⟩ := h t s ht h0
 obtain ⟨k1, k2, k3⟩ := k _ _ h1 h3
 exact ⟨k1, k2.trans h2, k3⟩
theorem reach_cons (n : Nod) (i : Int) (p : List Int) : reachN n (i :: p) = if asideT n.tag = true ∨ i < 0 ∨ (n.kids.length : Int) ≤ i then (0, n) else ((reachN (n.kids.getD i.toNat default) p).1 + 1, (reachN (n.kids.getD i.toNat default) p).2) := by rw [reachN]
theorem norm_cons (t : Int) (m : Nat) (i : Int) (p : List Int) (k : Int) : normP t m (some (i :: p, k)) = if asideT t = true ∨ i < 0 ∨ (m : Int) ≤ i then some ([], 0) else if k < 0 then some (i :: p, 0) else some (i :: p, k) := rfl
theorem refP_some (n : Nod) (p : List Int) (k : Int) : refP n (some (p, k)) = some (p.take (reachN n p).1, if (reachN n p).1 < p.length ∨ k < 0 then 0 else k) := rfl
theorem refP_nil (n : Nod) (k : Int) : refP n (some ([], k)) = some ([], if k < 0 then 0 else k) := by
 rw [refP_some, reachN]
 simp
theorem normP_nil (t : Int) (m : Nat) (k : Int) : normP t m (some ([], k)) = some ([], if k < 0 then 0 else k) := rfl
theorem ref_bad {n : Nod} {i : Int} {q : List Int} {k : Int} (h : asideT n.tag = true ∨ i < 0 ∨ (n.kids.length : Int) ≤ i) : refP n (some (i :: q, k)) = some ([], 0) ∧ normP n.tag n.kids.length (some (i :: q, k)) = some ([], 0) := by
 constructor
 ·rw [refP_some, reach_cons, if_pos h]
  simp
 ·rw [norm_cons, if_pos h]
theorem ref_good {n : Nod} {i : Int} {q : List Int} {k : Int} (h : ¬ (asideT n.tag = true ∨ i < 0 ∨ (n.kids.length : Int) ≤ i)) : ∃ q' k' k'', normP n.tag n.kids.length (some (i :: q, k)) = some (i :: q, k') ∧ refP (n.kids.getD i.toNat default) (some (q, k')) = some (q', k'') ∧ refP n (some (i :: q, k)) = some (i :: q', k'') := by
 refine ⟨q.take (reachN (n.kids.getD i.toNat default) q).1, if k < 0 then 0 else k, if (reachN (n.kids.getD i.toNat default) q).1 < q.length ∨ k < 0 then 0 else k, ?_, ?_, ?_⟩
 ·rw [norm_cons, if_neg h]
  split <;> rfl
 ·rw [refP_some]
  by_cases hk : k < 0
  ·simp [hk]
  ·simp [hk]
 ·rw [refP_some, reach_cons, if_neg h]
  simp
theorem walk_told (n : Nod) : ∀ a, AroOk a → Goes (evN n a none) (nodeV n a none) ∧ ∀ p k, Meets (evN n a (refP n (some (p, k)))) (nodeV n a (some (p, k))) := by
 refine Nod.rec (motive_1 := fun n => ∀ a, AroOk a → Goes (evN n a none) (nodeV n a none) ∧ ∀ p k, Meets (evN n a (refP n (some (p, k)))) (nodeV n a (some (p, k))))
  (motive_2 := fun ks => ∀ (i : Nat) a, AroOk a → Goes (evK ks i a none) (kidsV ks i a none) ∧ (∀ k : Int, (i : Int) ≤ k → Meets (evK ks i a (some ([], k))) (kidsV ks i a (some ([], k)))) ∧ (∀ k : Int, k < i → Gone (evK ks i a (some ([], k))) (kidsV ks i a (some ([], k)))) ∧
   (∀ (j : Int) q k q' k', j < i → Goes (evK ks i a (some (j :: q', k'))) (kidsV ks i a (some (j :: q, k)))) ∧
   (∀ (j : Int) q k q' k', (i : Int) ≤ j → j < i + ks.length → refP (ks.getD (j.toNat - i) default) (some (q, k)) = some (q', k') → Meets (evK ks i a (some (j :: q', k'))) (kidsV ks i a (some (j :: q, k))))) ?_ ?_ ?_ n
 ·intro t ats x ks ih a ha
  by_cases h1 : tagC t = 1
  ·have e : ∀ p, nodeV (.mk t ats x ks) a p = textV a (runesB ⟨x.toArray⟩) ((normP t ks.length p).map (·.2)) := fun p => by
    funext s; rw [nodeV]; simp only [if_pos h1]
   have e2 : ∀ p, evN (.mk t ats x ks) a p = evT a (runesB ⟨x.toArray⟩) (p.map (·.2)) := fun p => by rw [evN]; simp only [if_pos h1]
   have has : asideT t = true := by unfold asideT; simp [h1]
   refine ⟨?_, fun p k => ?_⟩
   ·rw [e, e2]
    exact goes_text a _
   ·have hp : ∃ k', 0 ≤ k' ∧ (refP (.mk t ats x ks) (some (p, k))) = some ([], k') ∧ normP t ks.length (some (p, k)) = some ([], k') := by
     cases p with
     | nil => exact ⟨if k < 0 then 0 else k, by split <;> omega, refP_nil _ _, normP_nil _ _ _⟩
     | cons i q =>
      have := ref_bad (n := .mk t ats x ks) (i := i) (q := q) (k := k) (.inl has)
      exact ⟨0, by omega, this.1, this.2⟩
    obtain ⟨k', hk, hr, hn⟩ := hp
    rw [e, e2, hr, hn]
    exact meets_text a _ k' hk
  by_cases h5 : tagC t = 5
  ·have e : ∀ p, nodeV (.mk t ats x ks) a p = fun s => putV a 10 (if (normP t ks.length p).isSome = true then metV s else s) := fun p => by
    funext s; rw [nodeV]; simp only [if_neg h1, if_pos h5]
   have e2 : ∀ p, evN (.mk t ats x ks) a p = (if p.isSome = true then [ev 4 lin0] else []) ++ [evP a 10] := fun p => by rw [evN]; simp only [if_neg h1, if_pos h5]
   refine ⟨?_, fun p k => ?_⟩
   ·rw [e, e2]
    exact goes_put a 10
   ·have hs : ∀ p, (normP t ks.length (some p)).isSome = true := fun p => by
     obtain ⟨p, k⟩ := p
     cases p with
     | nil => rfl
     | cons i q => rw [norm_cons]; split; rfl; split <;> rfl
    have hr : (refP (.mk t ats x ks) (some (p, k))).isSome = true := rfl
    rw [e, e2, if_pos hr]
    simp only [if_pos (hs _)]
    exact meets_met.goes (goes_put a 10)
  ·have hi := ih 0 (innerA (.mk t ats x ks) a) (inner_ok _ ha)
   have hsh := fun p (f : VSt → VSt) => ev_shape (t := t) (ats := ats) (x := x) (ks := ks) (a := a) h1 h5 p (f := f)
   have has : ¬ asideT t = true := by unfold asideT; simp [h1, h5]
   refine ⟨?_, fun p k => ?_⟩
   ·rw [node_shape ha h1 h5]
    exact (hsh none _).1 hi.1
   ·rw [node_shape ha h1 h5]
    cases p with
    | nil =>
     rw [refP_nil, normP_nil]
     exact (hsh _ _).2 (hi.2.1 _ (by split <;> omega))
    | cons i q =>
     by_cases hb : asideT t = true ∨ i < 0 ∨ (ks.length : Int) ≤ i
     ·have := ref_bad (n := .mk t ats x ks) (i := i) (q := q) (k := k) hb
      rw [this.1, show normP t ks.length (some (i :: q, k)) = some ([], 0) from this.2]
      exact (hsh _ _).2 (hi.2.1 _ (by omega))
     ·obtain ⟨q', k', k'', g1, g2, g3⟩ := ref_good (n := .mk t ats x ks) (i := i) (q := q) (k := k) hb
      rw [g3, show normP t ks.length (some (i :: q, k)) = some (i :: q, k') from g1]
      exact (hsh _ _).2 (hi.2.2.2.2 i q k' q' k'' (by omega) (by omega) (by simpa [Nod.kids] using g2))
 ·intro i a ha
  refine ⟨goes_nil, fun k hk => ?_, fun k hk => ?_, fun j q k q' k' _ => goes_nil, fun j q k q' k' h1 h2 _ => ?_⟩
  ·have e : evK [] i a (some ([], k)) = [ev 4 lin0] := by rw [evK]; simp [hk]
   rw [e]
   exact meets_met
  ·have e : evK [] i a (some ([], k)) = [] := by rw [evK]; simp; omega
   rw [e]
   intro t s ht h0
   have e2 : kidsV [] i a (some ([], k)) s = s := by rw [kidsV]; unfold metV; rw [if_pos h0]
   rw [e2]
   exact ⟨ht, rfl, h0⟩
  ·simp at h2; omega
 ·intro n ks hn hks i a ha
  obtain ⟨n1, n2⟩ := hn a ha
  obtain ⟨A, B, B', C', C⟩ := hks (i + 1) a ha
  refine ⟨?_, fun k hk => ?_, fun k hk => ?_, fun j q k q' k' hj => ?_, fun j q k q' k' h1 h2 hr => ?_⟩
  ·have e1 : evK (n :: ks) i a none = evN n a none ++ evK ks (i + 1) a none := by rw [evK]
   have e2 : kidsV (n :: ks) i a none = fun s => kidsV ks (i + 1) a none (nodeV n a none s) := by funext s; rw [kidsV]
   rw [e1, e2]
   exact n1.then A
  ·by_cases hki : k = (i : Int)
   ·have e1 : evK (n :: ks) i a (some ([], k)) = [ev 4 lin0] ++ (evN n a none ++ evK ks (i + 1) a (some ([], k))) := by rw [evK]; simp [hki]
    have e2 : kidsV (n :: ks) i a (some ([], k)) = fun s => kidsV ks (i + 1) a (some ([], k)) (nodeV n a none (metV s)) := by funext s; rw [kidsV]; simp [hki]
    rw [e1, e2]
    exact meets_met.then (n1.gone.then (B' k (by omega)))
   ·have e1 : evK (n :: ks) i a (some ([], k)) = evN n a none ++ evK ks (i + 1) a (some ([], k)) := by rw [evK]; simp [hki]
    have e2 : kidsV (n :: ks) i a (some ([], k)) = fun s => kidsV ks (i + 1) a (some ([], k)) (nodeV n a none s) := by funext s; rw [kidsV]; simp [hki]
    rw [e1, e2]
    exact n1.meets (B k (by omega))
  ·have hki : ¬ k = (i : Int) := by omega
   have e1 : evK (n :: ks) i a (some ([], k)) = evN n a none ++ evK ks (i + 1) a (some ([], k)) := by rw [evK]; simp [hki]
   have e2 : kidsV (n :: ks) i a (some ([], k)) = fun s => kidsV ks (i + 1) a (some ([], k)) (nodeV n a none s) := by funext s; rw [kidsV]; simp [hki]
   rw [e1, e2]
   exact n1.gone.then (B' k (by omega))
  ·have hji : ¬ j = (i : Int) := by omega
   have e1 : evK (n :: ks) i a (some (j :: q', k')) = evN n a none ++ evK ks (i + 1) a (some (j :: q', k')) := by rw [evK]; simp [hji]
   have e2 : kidsV (n :: ks) i a (some (j :: q, k)) = fun s => kidsV ks (i + 1) a (some (j :: q, k)) (nodeV n a none s) := by funext s; rw [kidsV]; simp [hji]
   rw [e1, e2]
   exact n1.then (C' j q k q' k' (by omega))
  ·by_cases hji : j = (i : Int)
   ·have e1 : evK (n :: ks) i a (some (j :: q', k')) = evN n a (some (q', k')) ++ evK ks (i + 1) a (some (j :: q', k')) := by rw [evK]; simp [hji]
    have e2 : kidsV (n :: ks) i a (some (j :: q, k)) = fun s => kidsV ks (i + 1) a (some (j :: q, k)) (nodeV n a (some (q, k)) s) := by funext s; rw [kidsV]; simp [hji]
    have e3 : (n :: ks).getD (j.toNat - i) default = n := by rw [show j.toNat - i = 0 by omega]; rfl
    rw [e3] at hr
    rw [e1, e2, ← hr]
    have := n2 q k
    exact this.goes (C' j q k q' k' (by omega))
   ·have e1 : evK (n :: ks) i a (some (j :: q', k')) = evN n a none ++ evK ks (i + 1) a (some (j :: q', k')) := by rw [evK]; simp [hji]
    have e2 : kidsV (n :: ks) i a (some (j :: q, k)) = fun s => kidsV ks (i + 1) a (some (j :: q, k)) (nodeV n a none s) := by funext s; rw [kidsV]; simp [hji]
    have e3 : (n :: ks).getD (j.toNat - i) default = ks.getD (j.toNat - (i + 1)) default := by
     rw [show j.toNat - i = (j.toNat - (i + 1)) + 1 by omega]
     rfl
    rw [e3] at hr
    rw [e1, e2]
    exact n1.meets (C j q k q' k' (by omega) (by simp at h2; omega) hr)
def tst0 : TSt := ⟨[], [], ⟨0, 0⟩, false, false, false⟩
theorem tr0 : TR tst0 vst0 := ⟨rfl, rfl, (fun e => by cases e), rfl, .inl ⟨rfl, rfl, rfl⟩⟩
theorem aro0_ok : AroOk aro0 := by unfold AroOk aro0; decide
end Go.Proofs.Qw
