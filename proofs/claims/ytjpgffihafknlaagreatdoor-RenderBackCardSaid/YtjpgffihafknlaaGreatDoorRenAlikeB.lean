/- The nodes of a row of cells: level by level, and cell by cell, plainly. -/
import Derived.Test.YtjpgffihafknlaaGreatDoorNodPlainB
import Derived.Test.YtjpgffihafknlaaGreatDoorDocPosB
import Derived.Lib.QuoteLoop
import Derived.Lib.TrimUEq
import Derived.Lib.SplitLaws
import Derived.Lib.IndexLaws
import Derived.Lib.TrimByte
import Derived.Lib.Join
import Derived.Laws.Entries
import Derived.Deep.RegionHeld3
import Derived.StillTailTactics
import Derived.Deep.DrawnRows
set_option linter.unusedVariables false
set_option linter.unusedSimpArgs false
namespace Go.Proofs.Qw
open Go.RowKit
abbrev Wr := Int × List Att
def txtL (l : List Int) : List UInt8 := l.flatMap Lib.encodeRune
def txtN (l : List Int) : Nod := .mk 0 [] (txtL l) []
def brN : Nod := .mk 16 [] [] []
def wrapO (w : Option Wr) (ns : List Nod) : List Nod := match w with | none => ns | some w => [.mk w.1 w.2 [] ns]
def textR (a b : Cel) : Bool := decide (a.r ≠ 10) && decide (b.r ≠ 10)
def leafP (p : List Cel) : Nod := if (p.headD default).r = 10 then brN else txtN (p.map (·.r))
def leavesN (l : List Cel) : List Nod := (partsBy textR l).map leafP
def gr : List (Cel → Option Wr) → List Cel → List Nod
 | [], l => leavesN l
 | k :: ks, l => (partsBy (fun a b => decide (k a = k b)) l).flatMap fun p => wrapO (k (p.headD default)) (gr ks p)
theorem wrapO_ne {w : Option Wr} {ns : List Nod} (h : ns ≠ []) : wrapO w ns ≠ [] := by
 cases w <;> simp [wrapO, h]
theorem parts_ne_nil {α : Type} {r : α → α → Bool} {l : List α} (h : l ≠ []) : partsBy r l ≠ [] := by
 cases l with
 | nil => exact absurd rfl h
 | cons a l => rw [parts_cons]; simp
theorem gr_ne : ∀ (ks : List (Cel → Option Wr)) {l : List Cel}, l ≠ [] → gr ks l ≠ []
 | [], l, h => by
  unfold gr leavesN
  intro e
  exact parts_ne_nil h (List.map_eq_nil_iff.1 e)
 | k :: ks, l, h => by
  unfold gr
  intro e
  obtain ⟨p, ps, hp⟩ : ∃ p ps, partsBy (fun a b => decide (k a = k b)) l = p :: ps := by
   cases hq : partsBy (fun a b => decide (k a = k b)) l with
   | nil => exact absurd hq (parts_ne_nil h)
   | cons p ps => exact ⟨p, ps, rfl⟩
  rw [hp, List.flatMap_cons] at e
  have hpe : p ≠ [] := parts_ne _ _ l (Nat.le_refl _) p (by rw [hp]; simp)
  exact wrapO_ne (gr_ne ks hpe) (List.append_eq_nil_iff.1 e).1
theorem key_all {k : Cel → Option Wr} : ∀ (n : Nat) (l : List Cel), l.length ≤ n → ∀ p ∈ partsBy (fun a b => decide (k a = k b)) l, ∀ x ∈ p, k x = k (p.headD default)
 | 0, l, hl => by
  have : l = [] := List.length_eq_zero_iff.1 (by omega)
  subst this
  rw [parts_nil]; simp
 | n + 1, [], _ => by rw [parts_nil]; simp
 | n + 1, a :: l, hl => by
  rw [parts_cons]
  intro p hp
  rcases List.mem_cons.1 hp with rfl | h
  ·intro x hx
   rcases List.mem_cons.1 hx with rfl | hx
   ·rfl
   ·have := List.all_takeWhile (l := l) (p := fun b => decide (k a = k b))
    rw [List.all_eq_true] at this
    have := this x hx
    simpa using (of_decide_eq_true this).symm
  ·exact key_all n _ (by have := (List.dropWhile_suffix (l := l) (fun b => decide (k a = k b))).length_le; simp at hl; omega) p h
end Go.Proofs.Qw
namespace Go.Proofs.Qw
open Go.RowKit
def wayL (l : Lin) : List Int := List.replicate (min l.quote.toNat 6) 6 ++ l.lists.map (fun k => if k = 0 then 7 else 8)
def stepL (lv : Nat) (l : Lin) : Int := (wayL l).getD lv 0
def stepR (lv : Nat) (a b : Lin) : Bool := decide (stepL lv a ≠ 0) && decide (stepL lv a = stepL lv b)
def lvHref (c : Cel) : Option Wr := if c.href = [] then none else some (10, hrefA c.href)
def lineN (row : List Cel → List Nod) (l : Lin) : Nod := .mk (if l.lists ≠ [] then 9 else l.kind + 2) [] [] (row l.cells)
def hostL (leaf : Lin → Nod) : Nat → Nat → List Lin → List Nod
 | 0, _, d => d.map leaf
 | n + 1, lv, d => (partsBy (stepR lv) d).flatMap fun p => if stepL lv (p.headD default) ≠ 0 then [.mk (stepL lv (p.headD default)) [] [] (hostL leaf n (lv + 1) p)] else [leaf (p.headD default)]
theorem step_all {lv : Nat} : ∀ (n : Nat) (l : List Lin), l.length ≤ n → ∀ p ∈ partsBy (stepR lv) l, ∀ x ∈ p, stepL lv x = stepL lv (p.headD default)
 | 0, l, hl => by
  have : l = [] := List.length_eq_zero_iff.1 (by omega)
  subst this
  rw [parts_nil]; simp
 | n + 1, [], _ => by rw [parts_nil]; simp
 | n + 1, a :: l, hl => by
  rw [parts_cons]
  intro p hp
  rcases List.mem_cons.1 hp with rfl | h
  ·intro x hx
   rcases List.mem_cons.1 hx with rfl | hx
   ·rfl
   ·have := List.all_takeWhile (l := l) (p := stepR lv a)
    rw [List.all_eq_true] at this
    have := this x hx
    unfold stepR at this
    simp only [Bool.and_eq_true, decide_eq_true_eq] at this
    exact this.2.symm
  ·exact step_all n _ (by have := (List.dropWhile_suffix (l := l) (stepR lv a)).length_le; simp at hl; omega) p h
theorem way_pos {l : Lin} {t : Int} (h : t ∈ wayL l) : t ≠ 0 := by
 unfold wayL at h
 rcases List.mem_append.1 h with h | h
 ·rw [List.eq_of_mem_replicate h]; decide
 ·obtain ⟨k, _, rfl⟩ := List.mem_map.1 h
  split <;> decide
theorem stepL_some {l : Lin} {lv : Nat} (h : stepL lv l ≠ 0) : lv < (wayL l).length ∧ (wayL l).drop lv = stepL lv l :: (wayL l).drop (lv + 1) := by
 have hl : lv < (wayL l).length := by
  rcases Nat.lt_or_ge lv (wayL l).length with h1 | h1
  ·exact h1
  ·exfalso; apply h; unfold stepL; rw [List.getD_eq_getElem?_getD, List.getElem?_eq_none h1]; rfl
 refine ⟨hl, ?_⟩
 rw [List.drop_eq_getElem_cons hl]
 unfold stepL
 rw [List.getD_eq_getElem?_getD, List.getElem?_eq_getElem hl]
 rfl
theorem stepL_none {l : Lin} {lv : Nat} (h : stepL lv l = 0) : (wayL l).drop lv = [] := by
 rcases Nat.lt_or_ge lv (wayL l).length with h1 | h1
 ·exfalso
  unfold stepL at h
  rw [List.getD_eq_getElem?_getD, List.getElem?_eq_getElem h1] at h
  exact way_pos (List.getElem_mem h1) h
 ·exact List.drop_eq_nil_of_le h1
end Go.Proofs.Qw
namespace Go.Proofs.Qw
open Go.RowKit Go.Proofs.YtjpgffihafknlaaGreatDoor
theorem decode_valid (s : ByteArray) (pos : Nat) : Lib.validRune ((Utf8.decode s pos).1 : Int) = true := by
 rw [← Lib.decodeL_drop]
 exact Lib.rune_valid _
theorem runesGo_valid (s : ByteArray) : ∀ (f pos : Nat), ∀ c ∈ runesGo s f pos, Lib.validRune c = true
 | 0, _, c, h => by simp [runesGo] at h
 | f + 1, pos, c, h => by
  unfold runesGo at h
  split at h
  ·rcases List.mem_cons.1 h with rfl | h
   ·exact decode_valid s pos
   ·exact runesGo_valid s f _ c h
  ·cases h
theorem classF_valid {c : Int} (h : Lib.validRune c = true) : classF c ≠ 0 := by
 unfold classF
 rw [h, if_neg (by decide)]
 (repeat' split) <;> decide
theorem classF_runes (t : ByteArray) : ∀ c ∈ runesB t, classF c ≠ 0 := fun c h => classF_valid (runesGo_valid t _ _ c h)
theorem classF_ge (c : Int) : 0 ≤ classF c := by
 unfold classF
 (repeat' split) <;> decide
theorem classF_32 : classF 32 = 2 := by decide
def cleanR (c : Int) : Option Int := if c = 9 ∨ c = 12 ∨ c = 13 then some 32 else if c = 10 then some 10 else if classF c = 1 then none else some c
def cellsOf (l : List Int) (b : Int) (h : List UInt8) : List Cel := l.map fun c => ⟨c, b, h⟩
end Go.Proofs.Qw
namespace Go.Proofs.Qw
open Go.RowKit Go.Proofs.YtjpgffihafknlaaGreatDoor
theorem byte_nat {x : Int} (h0 : 0 ≤ x) (h1 : x < 256) : (x.toNat.toUInt8).toNat = x.toNat := by
 rw [UInt8.toNat_ofNat']
 omega
theorem decode_encode {r : Int} (h : Lib.validRune r = true) (t : List UInt8) : Lib.decodeL (Lib.encodeRune r ++ t) = (r.toNat, (Lib.encodeRune r).length) := by
 unfold Lib.validRune at h
 rw [decide_eq_true_eq] at h
 rw [Lib.decodeL_N]
 unfold Lib.encodeRune
 by_cases h1 : r ≤ 127
 ·rw [Lib.encodeRuneZ_one (by omega) h1]
  simp only [List.map_cons, List.map_nil, List.singleton_append, List.length_cons, List.length_nil, List.getD_cons_zero]
  rw [byte_nat (by omega) (by omega)]
  unfold Lib.decodeN
  rw [if_pos (by omega)]
 by_cases h2 : r ≤ 2047
 ·rw [Lib.encodeRuneZ_two (by omega) h2]
  simp only [List.map_cons, List.map_nil, List.cons_append, List.nil_append, List.length_cons, List.length_nil, List.getD_cons_zero, List.getD_cons_succ]
  rw [byte_nat (by omega) (by omega), byte_nat (by omega) (by omega)]
  unfold Lib.decodeN
  rw [if_neg (by omega), if_pos (by omega), if_pos (by omega)]
  congr 1
  omega
 by_cases h3 : r ≤ 65535
 ·rw [Lib.encodeRuneZ_three (by omega)]
  simp only [List.map_cons, List.map_nil, List.cons_append, List.nil_append, List.length_cons, List.length_nil, List.getD_cons_zero, List.getD_cons_succ]
  rw [byte_nat (by omega) (by omega), byte_nat (by omega) (by omega), byte_nat (by omega) (by omega)]
  unfold Lib.decodeN
  rw [if_neg (by omega), if_neg (by omega), if_pos (by omega), if_pos (by omega)]
  congr 1
  omega
 ·rw [Lib.encodeRuneZ_four (by omega) (by omega)]
  simp only [List.map_cons, List.map_nil, List.cons_append, List.nil_append, List.length_cons, List.length_nil, List.getD_cons_zero, List.getD_cons_succ]
  rw [byte_nat (by omega) (by omega), byte_nat (by omega) (by omega), byte_nat (by omega) (by omega), byte_nat (by omega) (by omega)]
  unfold Lib.decodeN
  rw [if_neg (by omega), if_neg (by omega), if_neg (by omega), if_pos (by omega), if_pos (by omega)]
  congr 1
  omega
theorem encode_pos (r : Int) : 1 ≤ (Lib.encodeRune r).length := by
 unfold Lib.encodeRune
 rw [List.length_map]
 exact (Lib.encodeRuneZ_length r).1
theorem runesL_of : ∀ (l : List Int) (f : Nat), (∀ c ∈ l, Lib.validRune c = true) → (l.flatMap Lib.encodeRune).length ≤ f → runesL f (l.flatMap Lib.encodeRune) = l
 | [], f, _, _ => by
  cases f with
  | zero => rfl
  | succ f => rw [List.flatMap_nil, runesL, if_pos rfl]
 | c :: l, f, hv, hf => by
  have hp := encode_pos c
  have hc := hv c (by simp)
  rw [List.flatMap_cons] at hf ⊢
  rw [List.length_append] at hf
  cases f with
  | zero => omega
  | succ f =>
   have hne : Lib.encodeRune c ++ l.flatMap Lib.encodeRune ≠ [] := by
    intro e
    rw [(List.append_eq_nil_iff.1 e).1] at hp
    simp at hp
   rw [runesL, if_neg hne, decode_encode hc, List.drop_left, runesL_of l f (fun x hx => hv x (by simp [hx])) (by omega)]
   congr 1
   unfold Lib.validRune at hc
   rw [decide_eq_true_eq] at hc
   simp only
   omega
theorem runesB_of (l : List Int) (hv : ∀ c ∈ l, Lib.validRune c = true) : runesB ⟨(l.flatMap Lib.encodeRune).toArray⟩ = l := by
 unfold runesB
 rw [runesGo_eq]
 simp only [List.drop_zero]
 exact runesL_of l _ hv (by simp [ByteArray.size])
theorem mayR_valid {c : Int} (h : mayR c = true) : Lib.validRune c = true := by
 unfold mayR at h
 rw [decide_eq_true_eq] at h
 unfold classF at h
 cases hv : Lib.validRune c with
 | true => rfl
 | false => rw [if_pos hv] at h; omega
def flatC (c : Int) : Option Int := if c = 9 ∨ c = 10 ∨ c = 12 ∨ c = 13 then some 32 else if classF c = 1 then none else some c
theorem flat_may (c : Int) (h : mayR c = true) : flatC c = some c := by
 unfold mayR at h
 rw [decide_eq_true_eq] at h
 unfold flatC
 rw [if_neg, if_neg (by omega)]
 rintro (rfl | rfl | rfl | rfl) <;> exact absurd h (by decide)
theorem bits_up (x : Int) (j : Nat) (h0 : 0 ≤ x) (h1 : x ≤ 15) (hj : j < 4) : (bits .and .i64 x (2 ^ j) = 0 ∧ bits .and .i64 x (2 ^ (j + 1) - 1) = bits .and .i64 x (2 ^ j - 1)) ∨ (bits .and .i64 x (2 ^ j) ≠ 0 ∧ bits .or .i64 (bits .andNot .i64 (bits .and .i64 x (2 ^ j - 1)) 0) (2 ^ j) = bits .and .i64 x (2 ^ (j + 1) - 1)) := by
 have H : ∀ (x : Fin 16) (j : Fin 4), (bits .and .i64 (x.val : Int) (2 ^ j.val) = 0 ∧ bits .and .i64 (x.val : Int) (2 ^ (j.val + 1) - 1) = bits .and .i64 (x.val : Int) (2 ^ j.val - 1)) ∨ (bits .and .i64 (x.val : Int) (2 ^ j.val) ≠ 0 ∧ bits .or .i64 (bits .andNot .i64 (bits .and .i64 (x.val : Int) (2 ^ j.val - 1)) 0) (2 ^ j.val) = bits .and .i64 (x.val : Int) (2 ^ (j.val + 1) - 1)) := by decide +kernel
 have := H ⟨x.toNat, by omega⟩ ⟨j, hj⟩
 have e : ((x.toNat : Nat) : Int) = x := Int.toNat_of_nonneg h0
 simp only [e] at this
 exact this
theorem bits_all (x : Int) (h0 : 0 ≤ x) (h1 : x ≤ 15) : bits .and .i64 x 15 = x := by
 have H : ∀ x : Fin 16, bits .and .i64 (x.val : Int) 15 = (x.val : Int) := by decide +kernel
 have := H ⟨x.toNat, by omega⟩
 have e : ((x.toNat : Nat) : Int) = x := Int.toNat_of_nonneg h0
 simp only [e] at this
 exact this
theorem bits_none (x : Int) : bits .and .i64 x 0 = 0 := by
 unfold bits
 simp
 decide
theorem band_or0 (x : Int) (h0 : 0 ≤ x) (h1 : x ≤ 15) : bits .or .i64 (bits .andNot .i64 x 0) 0 = x := by
 have H : ∀ x : Fin 16, bits .or .i64 (bits .andNot .i64 (x.val : Int) 0) 0 = (x.val : Int) := by decide +kernel
 have := H ⟨x.toNat, by omega⟩
 have e : ((x.toNat : Nat) : Int) = x := Int.toNat_of_nonneg h0
 simp only [e] at this
 exact this
end Go.Proofs.Qw
namespace Go.Proofs.Qw
def lowc (c : UInt8) : UInt8 := if 65 ≤ c ∧ c ≤ 90 then c + 32 else c
def low (l : List UInt8) : List UInt8 := l.map lowc
def splitL (c : UInt8) : List UInt8 → List (List UInt8)
 | [] => [[]]
 | b :: l => if b = c then [] :: splitL c l else (b :: (splitL c l).headD []) :: (splitL c l).tail
theorem splitL_ne (c : UInt8) : ∀ l, splitL c l ≠ []
 | [] => by simp [splitL]
 | b :: l => by unfold splitL; split <;> simp
def underline : List UInt8 := [117, 110, 100, 101, 114, 108, 105, 110, 101]
def through : List UInt8 := [108, 105, 110, 101, 45, 116, 104, 114, 111, 117, 103, 104]
def fontWeight : List UInt8 := [102, 111, 110, 116, 45, 119, 101, 105, 103, 104, 116]
def fontStyle : List UInt8 := [102, 111, 110, 116, 45, 115, 116, 121, 108, 101]
def textDeco : List UInt8 := [116, 101, 120, 116, 45, 100, 101, 99, 111, 114, 97, 116, 105, 111, 110]
def bold : List UInt8 := [98, 111, 108, 100]
def w700 : List UInt8 := [55, 48, 48]
def normal : List UInt8 := [110, 111, 114, 109, 97, 108]
def w400 : List UInt8 := [52, 48, 48]
def italic : List UInt8 := [105, 116, 97, 108, 105, 99]
def none_ : List UInt8 := [110, 111, 110, 101]
def wordsGo (b : Int) (s : Bool) : List (List UInt8) → Int × Bool
 | [] => (b, s)
 | w :: r => if w = underline then wordsGo (bits .or .i64 b 4) true r
  else if w = through then wordsGo (bits .or .i64 b 8) true r
  else if w = [] then wordsGo b s r else (0, false)
def words (l : List UInt8) : Int × Bool := wordsGo 0 false (splitL 32 l)
theorem wordsGo1 {b : Int} {s : Bool} {w : List UInt8} {r : List (List UInt8)} (h : w = underline) : wordsGo b s (w :: r) = wordsGo (bits .or .i64 b 4) true r := by rw [wordsGo, if_pos h]
theorem wordsGo2 {b : Int} {s : Bool} {w : List UInt8} {r : List (List UInt8)} (h1 : w ≠ underline) (h : w = through) : wordsGo b s (w :: r) = wordsGo (bits .or .i64 b 8) true r := by rw [wordsGo, if_neg h1, if_pos h]
theorem wordsGo3 {b : Int} {s : Bool} {w : List UInt8} {r : List (List UInt8)} (h1 : w ≠ underline) (h2 : w ≠ through) (h : w = []) : wordsGo b s (w :: r) = wordsGo b s r := by rw [wordsGo, if_neg h1, if_neg h2, if_pos h]
theorem wordsGo4 {b : Int} {s : Bool} {w : List UInt8} {r : List (List UInt8)} (h1 : w ≠ underline) (h2 : w ≠ through) (h : w ≠ []) : wordsGo b s (w :: r) = (0, false) := by rw [wordsGo, if_neg h1, if_neg h2, if_neg h]
theorem low_length (l : List UInt8) : (low l).length = l.length := by simp [low]
theorem lowc_yes {b : UInt8} (h1 : 65 ≤ (b.toNat : Int)) (h2 : (b.toNat : Int) ≤ 90) : (b.toNat : Int) + 32 = ((lowc b).toNat : Int) := by
 have : 65 ≤ b ∧ b ≤ 90 := by rw [UInt8.le_iff_toNat_le, UInt8.le_iff_toNat_le]; simp; omega
 unfold lowc
 rw [if_pos this, UInt8.toNat_add]
 simp; omega
theorem lowc_no {b : UInt8} (h : ¬ (65 ≤ (b.toNat : Int) ∧ (b.toNat : Int) ≤ 90)) : lowc b = b := by
 unfold lowc
 rw [if_neg]
 rw [UInt8.le_iff_toNat_le, UInt8.le_iff_toNat_le]; simp; omega
theorem low_step {l : List UInt8} {k : Nat} {b : UInt8} (h : l[k]? = some b) : (low (l.take k) ++ l.drop k).set k (lowc b) = low (l.take (k + 1)) ++ l.drop (k + 1) := by
 obtain ⟨hk, rfl⟩ := List.getElem?_eq_some_iff.1 h
 have e : (low (l.take k)).length = k := by rw [low_length, List.length_take]; omega
 rw [List.set_append_right _ _ (by omega), e, Nat.sub_self, List.drop_eq_getElem_cons hk, List.set_cons_zero, List.take_succ_eq_append_getElem hk]
 unfold low
 rw [List.map_append, List.append_assoc]
 rfl
theorem low_keep {l : List UInt8} {k : Nat} {b : UInt8} (h : l[k]? = some b) (hb : lowc b = b) : low (l.take k) ++ l.drop k = low (l.take (k + 1)) ++ l.drop (k + 1) := by
 rw [← low_step h, hb]
 obtain ⟨hk, rfl⟩ := List.getElem?_eq_some_iff.1 h
 have e : (low (l.take k)).length = k := by rw [low_length, List.length_take]; omega
 rw [List.set_append_right _ _ (by omega), e, Nat.sub_self, List.drop_eq_getElem_cons hk, List.set_cons_zero]
theorem index_one_cons (b c : UInt8) (l : List UInt8) : Lib.index (b :: l) [c] = if b = c then 0 else if Lib.index l [c] = -1 then -1 else Lib.index l [c] + 1 := by
 rw [Lib.index_one, Lib.index_one, Lib.indexByte]
 simp only [beq_iff_eq]
theorem splitK_eq (c : UInt8) : ∀ (l : List UInt8) (k : Nat), l.count c ≤ k → Lib.splitK [c] 0 k l = splitL c l := by
 intro l
 induction l with
 | nil => intro k _; cases k <;> simp [Lib.splitK, splitL, Lib.index_one, Lib.indexByte]
 | cons b l ih =>
  intro k hk
  by_cases hb : b = c
  ·subst hb
   cases k with
   | zero => simp at hk
   | succ k =>
    rw [Lib.splitK, index_one_cons, if_pos rfl]
    simp only [List.length_singleton]
    rw [splitL, if_pos rfl]
    simp
    exact ih k (by simpa using hk)
  ·rw [splitL, if_neg hb]
   rw [List.count_cons_of_ne hb] at hk
   have hi := ih k hk
   have hge := Lib.indexByte_ge l c
   rw [← Lib.index_one] at hge
   cases k with
   | zero =>
    have : splitL c l = [l] := by rw [← hi, Lib.splitK]
    rw [Lib.splitK, this]; simp
   | succ k =>
    rw [Lib.splitK, index_one_cons, if_neg hb]
    rw [← hi, Lib.splitK]
    by_cases h1 : Lib.index l [c] = -1
    ·simp [h1]
    ·have h4 : (Lib.index l [c] == -1) = false := by rw [beq_eq_false_iff_ne]; exact h1
     have h5 : ¬ Lib.index l [c] + 1 = -1 := by omega
     simp only [h4, if_neg h1, Bool.false_eq_true, if_false, List.length_singleton, beq_iff_eq, if_neg h5]
     have e1 : (Lib.index l [c] + 1).toNat = (Lib.index l [c]).toNat + 1 := by omega
     simp [e1]
theorem splitB_one (c : UInt8) (s : ByteArray) : (Lib.splitB ⟨#[c]⟩ 0 (Lib.countB s ⟨#[c]⟩) s).map (·.data.toList) = splitL c s.data.toList := by
 rw [Lib.splitB_data]
 refine splitK_eq c _ _ ?_
 show _ ≤ Lib.count s.data.toList [c]
 rw [Lib.count_one]
 exact Nat.le_refl _
theorem splitB_len (c : UInt8) (s : ByteArray) : (Lib.splitB ⟨#[c]⟩ 0 (Lib.countB s ⟨#[c]⟩) s).length = Lib.countB s ⟨#[c]⟩ + 1 :=
 Lib.splitB_all ⟨#[c]⟩ (Nat.le_refl 1) 0 _ s rfl
theorem countB_small (c : UInt8) (s : ByteArray) : Lib.countB s ⟨#[c]⟩ ≤ s.size := Lib.countB_le ⟨#[c]⟩ (Nat.le_refl 1) _ s (Nat.le_refl _)
def declOf (d : List UInt8) : Option (List UInt8 × List UInt8) :=
 if (Lib.cut d [58]).2.2 = true then some (low (Lib.trimB (Lib.cut d [58]).1 32), low (Lib.trimB (Lib.cut d [58]).2.1 32)) else none
def decls (l : List UInt8) : List (List UInt8 × List UInt8) := (splitL 59 l).filterMap declOf
theorem splitL_le (c : UInt8) : ∀ (l : List UInt8) (x : List UInt8), x ∈ splitL c l → x.length ≤ l.length
 | [], x, h => by simp [splitL] at h; simp [h]
 | b :: l, x, h => by
  unfold splitL at h
  split at h
  ·rcases List.mem_cons.1 h with rfl | h
   ·simp
   ·have := splitL_le c l x h; simp; omega
  ·rcases List.mem_cons.1 h with rfl | h
   ·have hn := splitL_ne c l
    match hs : splitL c l with
    | [] => exact absurd hs hn
    | y :: r =>
     have := splitL_le c l y (by rw [hs]; simp)
     simp; omega
   ·have := splitL_le c l x (List.mem_of_mem_tail h); simp; omega
theorem dropWhile_le {α : Type} (p : α → Bool) : ∀ l : List α, (l.dropWhile p).length ≤ l.length
 | [] => by simp
 | b :: l => by rw [List.dropWhile_cons]; have := dropWhile_le p l; split <;> simp; omega
theorem trimB_le (l : List UInt8) (c : UInt8) : (Lib.trimB l c).length ≤ l.length := by
 unfold Lib.trimB Lib.trimLeftB Lib.trimRightB
 have h1 := dropWhile_le (· == c) l.reverse
 have h2 := dropWhile_le (· == c) (l.reverse.dropWhile (· == c)).reverse
 simp at h1 h2
 simp; omega
theorem cut_le (d : List UInt8) : (Lib.cut d [58]).1.length ≤ d.length ∧ (Lib.cut d [58]).2.1.length ≤ d.length := by
 unfold Lib.cut
 split <;> simp
 omega
theorem take_snoc {α : Type} {xs : List α} {k : Nat} {x : α} (h : xs[k]? = some x) : xs.take (k + 1) = xs.take k ++ [x] := by
 obtain ⟨hk, rfl⟩ := List.getElem?_eq_some_iff.1 h
 exact List.take_succ_eq_append_getElem hk
theorem fm_none {α β γ : Type} {f : α → β} {g : β → Option γ} {xs : List α} {k : Nat} {x : α} (h : xs[k]? = some x) (hg : g (f x) = none) : ((xs.take (k + 1)).map f).filterMap g = ((xs.take k).map f).filterMap g := by
 rw [take_snoc h, List.map_append, List.filterMap_append, List.map_singleton, List.filterMap_cons_none hg, List.filterMap_nil, List.append_nil]
theorem fm_some {α β γ : Type} {f : α → β} {g : β → Option γ} {xs : List α} {k : Nat} {x : α} {y : γ} (h : xs[k]? = some x) (hg : g (f x) = some y) : ((xs.take (k + 1)).map f).filterMap g = ((xs.take k).map f).filterMap g ++ [y] := by
 rw [take_snoc h, List.map_append, List.filterMap_append, List.map_singleton, List.filterMap_cons_some hg, List.filterMap_nil]
def cssSay (st : Int × Int) (on off : Int) : Int × Int := (bits .or .i64 (bits .andNot .i64 st.1 off) on, bits .or .i64 (bits .andNot .i64 st.2 on) off)
def cssStepT (t : List UInt8) (st : Int × Int) (nm vl : List UInt8) : Int × Int :=
 if t = [102, 111, 110, 116, 45, 119, 101, 105, 103, 104, 116, 58, 98, 111, 108, 100] then cssSay st 1 0 else
 if t = [102, 111, 110, 116, 45, 119, 101, 105, 103, 104, 116, 58, 55, 48, 48] then cssSay st 1 0 else
 if t = [102, 111, 110, 116, 45, 119, 101, 105, 103, 104, 116, 58, 110, 111, 114, 109, 97, 108] then cssSay st 0 1 else
 if t = [102, 111, 110, 116, 45, 119, 101, 105, 103, 104, 116, 58, 52, 48, 48] then cssSay st 0 1 else
 if t = [102, 111, 110, 116, 45, 115, 116, 121, 108, 101, 58, 105, 116, 97, 108, 105, 99] then cssSay st 2 0 else
 if t = [102, 111, 110, 116, 45, 115, 116, 121, 108, 101, 58, 110, 111, 114, 109, 97, 108] then cssSay st 0 2 else
 if t = [116, 101, 120, 116, 45, 100, 101, 99, 111, 114, 97, 116, 105, 111, 110, 58, 110, 111, 110, 101] then cssSay st 0 12 else
 if (words vl).2 = true then (if nm = textDeco then cssSay st (words vl).1 (bits .andNot .i64 12 (words vl).1) else st) else st
def cssStep (st : Int × Int) (x : List UInt8 × List UInt8) : Int × Int := cssStepT (x.1 ++ 58 :: x.2) st x.1 x.2
theorem cssT1 {t : List UInt8} {st : Int × Int} {nm vl : List UInt8} (h : t = [102, 111, 110, 116, 45, 119, 101, 105, 103, 104, 116, 58, 98, 111, 108, 100]) : cssStepT t st nm vl = cssSay st 1 0 := by rw [cssStepT, if_pos h]
theorem cssT2 {t : List UInt8} {st : Int × Int} {nm vl : List UInt8} (h1 : ¬ t = [102, 111, 110, 116, 45, 119, 101, 105, 103, 104, 116, 58, 98, 111, 108, 100]) (h : t = [102, 111, 110, 116, 45, 119, 101, 105, 103, 104, 116, 58, 55, 48, 48]) : cssStepT t st nm vl = cssSay st 1 0 := by rw [cssStepT, if_neg h1, if_pos h]
theorem cssT3 {t : List UInt8} {st : Int × Int} {nm vl : List UInt8} (h1 : ¬ t = [102, 111, 110, 116, 45, 119, 101, 105, 103, 104, 116, 58, 98, 111, 108, 100]) (h2 : ¬ t = [102, 111, 110, 116, 45, 119, 101, 105, 103, 104, 116, 58, 55, 48, 48])
  (h : t = [102, 111, 110, 116, 45, 119, 101, 105, 103, 104, 116, 58, 110, 111, 114, 109, 97, 108]) : cssStepT t st nm vl = cssSay st 0 1 := by rw [cssStepT, if_neg h1, if_neg h2, if_pos h]
theorem cssT4 {t : List UInt8} {st : Int × Int} {nm vl : List UInt8} (h1 : ¬ t = [102, 111, 110, 116, 45, 119, 101, 105, 103, 104, 116, 58, 98, 111, 108, 100]) (h2 : ¬ t = [102, 111, 110, 116, 45, 119, 101, 105, 103, 104, 116, 58, 55, 48, 48])
  (h3 : ¬ t = [102, 111, 110, 116, 45, 119, 101, 105, 103, 104, 116, 58, 110, 111, 114, 109, 97, 108]) (h : t = [102, 111, 110, 116, 45, 119, 101, 105, 103, 104, 116, 58, 52, 48, 48]) : cssStepT t st nm vl = cssSay st 0 1 := by
 rw [cssStepT, if_neg h1, if_neg h2, if_neg h3, if_pos h]
theorem cssT5 {t : List UInt8} {st : Int × Int} {nm vl : List UInt8} (h1 : ¬ t = [102, 111, 110, 116, 45, 119, 101, 105, 103, 104, 116, 58, 98, 111, 108, 100]) (h2 : ¬ t = [102, 111, 110, 116, 45, 119, 101, 105, 103, 104, 116, 58, 55, 48, 48])
  (h3 : ¬ t = [102, 111, 110, 116, 45, 119, 101, 105, 103, 104, 116, 58, 110, 111, 114, 109, 97, 108]) (h4 : ¬ t = [102, 111, 110, 116, 45, 119, 101, 105, 103, 104, 116, 58, 52, 48, 48])
  (h : t = [102, 111, 110, 116, 45, 115, 116, 121, 108, 101, 58, 105, 116, 97, 108, 105, 99]) : cssStepT t st nm vl = cssSay st 2 0 := by rw [cssStepT, if_neg h1, if_neg h2, if_neg h3, if_neg h4, if_pos h]
theorem cssT6 {t : List UInt8} {st : Int × Int} {nm vl : List UInt8} (h1 : ¬ t = [102, 111, 110, 116, 45, 119, 101, 105, 103, 104, 116, 58, 98, 111, 108, 100]) (h2 : ¬ t = [102, 111, 110, 116, 45, 119, 101, 105, 103, 104, 116, 58, 55, 48, 48])
  (h3 : ¬ t = [102, 111, 110, 116, 45, 119, 101, 105, 103, 104, 116, 58, 110, 111, 114, 109, 97, 108]) (h4 : ¬ t = [102, 111, 110, 116, 45, 119, 101, 105, 103, 104, 116, 58, 52, 48, 48])
  (h5 : ¬ t = [102, 111, 110, 116, 45, 115, 116, 121, 108, 101, 58, 105, 116, 97, 108, 105, 99]) (h : t = [102, 111, 110, 116, 45, 115, 116, 121, 108, 101, 58, 110, 111, 114, 109, 97, 108]) : cssStepT t st nm vl = cssSay st 0 2 := by
 rw [cssStepT, if_neg h1, if_neg h2, if_neg h3, if_neg h4, if_neg h5, if_pos h]
theorem cssT7 {t : List UInt8} {st : Int × Int} {nm vl : List UInt8} (h1 : ¬ t = [102, 111, 110, 116, 45, 119, 101, 105, 103, 104, 116, 58, 98, 111, 108, 100]) (h2 : ¬ t = [102, 111, 110, 116, 45, 119, 101, 105, 103, 104, 116, 58, 55, 48, 48])
  (h3 : ¬ t = [102, 111, 110, 116, 45, 119, 101, 105, 103, 104, 116, 58, 110, 111, 114, 109, 97, 108]) (h4 : ¬ t = [102, 111, 110, 116, 45, 119, 101, 105, 103, 104, 116, 58, 52, 48, 48])
  (h5 : ¬ t = [102, 111, 110, 116, 45, 115, 116, 121, 108, 101, 58, 105, 116, 97, 108, 105, 99]) (h6 : ¬ t = [102, 111, 110, 116, 45, 115, 116, 121, 108, 101, 58, 110, 111, 114, 109, 97, 108])
  (h : t = [116, 101, 120, 116, 45, 100, 101, 99, 111, 114, 97, 116, 105, 111, 110, 58, 110, 111, 110, 101]) : cssStepT t st nm vl = cssSay st 0 12 := by
 rw [cssStepT, if_neg h1, if_neg h2, if_neg h3, if_neg h4, if_neg h5, if_neg h6, if_pos h]
theorem cssT8 {t : List UInt8} {st : Int × Int} {nm vl : List UInt8} (h1 : ¬ t = [102, 111, 110, 116, 45, 119, 101, 105, 103, 104, 116, 58, 98, 111, 108, 100]) (h2 : ¬ t = [102, 111, 110, 116, 45, 119, 101, 105, 103, 104, 116, 58, 55, 48, 48])
  (h3 : ¬ t = [102, 111, 110, 116, 45, 119, 101, 105, 103, 104, 116, 58, 110, 111, 114, 109, 97, 108]) (h4 : ¬ t = [102, 111, 110, 116, 45, 119, 101, 105, 103, 104, 116, 58, 52, 48, 48])
  (h5 : ¬ t = [102, 111, 110, 116, 45, 115, 116, 121, 108, 101, 58, 105, 116, 97, 108, 105, 99]) (h6 : ¬ t = [102, 111, 110, 116, 45, 115, 116, 121, 108, 101, 58, 110, 111, 114, 109, 97, 108])
  (h7 : ¬ t = [116, 101, 120, 116, 45, 100, 101, 99, 111, 114, 97, 116, 105, 111, 110, 58, 110, 111, 110, 101]) :
  cssStepT t st nm vl = if (words vl).2 = true then (if nm = textDeco then cssSay st (words vl).1 (bits .andNot .i64 12 (words vl).1) else st) else st := by
 rw [cssStepT, if_neg h1, if_neg h2, if_neg h3, if_neg h4, if_neg h5, if_neg h6, if_neg h7]
def cssParse (l : List UInt8) : Int × Int := (decls l).foldl cssStep (0, 0)
end Go.Proofs.Qw
namespace Go.Proofs.Qw
def en (v : BitVec 64) : Int := IntKind.i64.wrap (v.toNat : Int)
theorem of_en (v : BitVec 64) : BitVec.ofInt 64 (en v) = v := by
 apply BitVec.eq_of_toNat_eq
 have := v.isLt
 unfold en
 rw [IntKind.wrap_i64, BitVec.toNat_ofInt]
 omega
theorem en_or (u v : BitVec 64) : bits .or .i64 (en u) (en v) = en (u ||| v) := by
 show IntKind.i64.wrap (((BitVec.ofInt 64 (en u) ||| BitVec.ofInt 64 (en v)).toNat : Nat) : Int) = _
 rw [of_en, of_en]; rfl
theorem en_andNot (u v : BitVec 64) : bits .andNot .i64 (en u) (en v) = en (u &&& ~~~v) := by
 show IntKind.i64.wrap (((BitVec.ofInt 64 (en u) &&& ~~~BitVec.ofInt 64 (en v)).toNat : Nat) : Int) = _
 rw [of_en, of_en]; rfl
theorem en0 : (0 : Int) = en 0#64 := by decide +kernel
theorem en1 : (1 : Int) = en 1#64 := by decide +kernel
theorem en2 : (2 : Int) = en 2#64 := by decide +kernel
theorem en4 : (4 : Int) = en 4#64 := by decide +kernel
theorem en8 : (8 : Int) = en 8#64 := by decide +kernel
theorem en12 : (12 : Int) = en 12#64 := by decide +kernel
abbrev St := BitVec 64 × BitVec 64
def enS (p : St) : Int × Int := (en p.1, en p.2)
def ov (p q : St) : St := (p.1 &&& ~~~q.2 ||| q.1, p.2 &&& ~~~q.1 ||| q.2)
theorem ov_zero (p : St) : ov p (0#64, 0#64) = p := by
 unfold ov
 apply Prod.ext <;> apply BitVec.eq_of_getElem_eq <;> intro i hi <;> simp only [BitVec.getElem_or, BitVec.getElem_and, BitVec.getElem_not, BitVec.getElem_zero]
 ·cases p.1[i] <;> rfl
 ·cases p.2[i] <;> rfl
theorem enS_say (p : St) (on off : BitVec 64) : cssSay (enS p) (en on) (en off) = enS (ov p (on, off)) := by
 unfold cssSay enS ov
 simp only [en_andNot, en_or]
def wordsBGo (b : BitVec 64) (s : Bool) : List (List UInt8) → BitVec 64 × Bool
 | [] => (b, s)
 | w :: r => if w = underline then wordsBGo (b ||| 4#64) true r
  else if w = through then wordsBGo (b ||| 8#64) true r
  else if w = [] then wordsBGo b s r else (0#64, false)
theorem wordsBGo_eq : ∀ (r : List (List UInt8)) (b : BitVec 64) (s : Bool), wordsGo (en b) s r = (en (wordsBGo b s r).1, (wordsBGo b s r).2)
 | [], b, s => rfl
 | w :: r, b, s => by
  unfold wordsGo wordsBGo
  rw [en4, en_or, en8, en_or]
  split
  ·exact wordsBGo_eq r _ _
  ·split
   ·exact wordsBGo_eq r _ _
   ·split
    ·exact wordsBGo_eq r _ _
    ·exact congrArg (·, false) en0
def sub (v m : BitVec 64) : Prop := v &&& ~~~m = 0#64
theorem wordsBGo_sub : ∀ (r : List (List UInt8)) (b : BitVec 64) (s : Bool), sub b 12#64 → sub (wordsBGo b s r).1 12#64
 | [], b, s, h => h
 | w :: r, b, s, h => by
  unfold wordsBGo
  have h4 : sub (b ||| 4#64) 12#64 := by
   unfold sub at h ⊢
   rw [BitVec.and_or_distrib_right, h]; decide
  have h8 : sub (b ||| 8#64) 12#64 := by
   unfold sub at h ⊢
   rw [BitVec.and_or_distrib_right, h]; decide
  split
  ·exact wordsBGo_sub r _ _ h4
  ·split
   ·exact wordsBGo_sub r _ _ h8
   ·split
    ·exact wordsBGo_sub r _ _ h
    ·show sub 0#64 12#64
     unfold sub; decide
def saysB (x : List UInt8 × List UInt8) : St :=
 if x.1 ++ 58 :: x.2 = fontWeight ++ 58 :: bold then (1#64, 0#64) else
 if x.1 ++ 58 :: x.2 = fontWeight ++ 58 :: w700 then (1#64, 0#64) else
 if x.1 ++ 58 :: x.2 = fontWeight ++ 58 :: normal then (0#64, 1#64) else
 if x.1 ++ 58 :: x.2 = fontWeight ++ 58 :: w400 then (0#64, 1#64) else
 if x.1 ++ 58 :: x.2 = fontStyle ++ 58 :: italic then (2#64, 0#64) else
 if x.1 ++ 58 :: x.2 = fontStyle ++ 58 :: normal then (0#64, 2#64) else
 if x.1 ++ 58 :: x.2 = textDeco ++ 58 :: none_ then (0#64, 12#64) else
 if (wordsBGo 0#64 false (splitL 32 x.2)).2 = true then (if x.1 = textDeco then ((wordsBGo 0#64 false (splitL 32 x.2)).1, 12#64 &&& ~~~(wordsBGo 0#64 false (splitL 32 x.2)).1) else (0#64, 0#64)) else (0#64, 0#64)
theorem ite_enS {p a' b' : St} {c : Prop} [Decidable c] {a b : Int × Int} (h1 : a = enS (ov p a')) (h2 : b = enS (ov p b')) : (if c then a else b) = enS (ov p (if c then a' else b')) := by split <;> assumption
theorem step_says (p : St) (x : List UInt8 × List UInt8) : cssStep (enS p) x = enS (ov p (saysB x)) := by
 have hw : words x.2 = (en (wordsBGo 0#64 false (splitL 32 x.2)).1, (wordsBGo 0#64 false (splitL 32 x.2)).2) := by
  unfold words
  rw [en0]; exact wordsBGo_eq _ _ _
 unfold cssStep cssStepT saysB
 rw [hw]
 simp only [fontWeight, fontStyle, textDeco, bold, w700, normal, w400, italic, none_, List.cons_append, List.nil_append]
 rw [en0, en1, en2, en12, en_andNot]
 exact ite_enS (enS_say _ _ _) (ite_enS (enS_say _ _ _) (ite_enS (enS_say _ _ _) (ite_enS (enS_say _ _ _) (ite_enS (enS_say _ _ _) (ite_enS (enS_say _ _ _) (ite_enS (enS_say _ _ _) (ite_enS (ite_enS (enS_say _ _ _) (congrArg enS (ov_zero p).symm)) (congrArg enS (ov_zero p).symm))))))))
def fine (p : St) : Prop := p.1 &&& p.2 = 0#64 ∧ (p.1 ||| p.2) &&& ~~~15#64 = 0#64
theorem fine_bits {p : St} (h : fine p) (i : Nat) (hi : i < 64) : (p.1[i] && p.2[i]) = false ∧ ((p.1[i] || p.2[i]) && !(15#64)[i]) = false := by
 have h1 := congrArg (fun v => v[i]) h.1
 have h2 := congrArg (fun v => v[i]) h.2
 simp only [BitVec.getElem_and, BitVec.getElem_or, BitVec.getElem_not, BitVec.getElem_zero] at h1 h2
 exact ⟨h1, h2⟩
theorem fine_of {p : St} (h : ∀ (i : Nat) (hi : i < 64), (p.1[i] && p.2[i]) = false ∧ ((p.1[i] || p.2[i]) && !(15#64)[i]) = false) : fine p := by
 constructor <;> apply BitVec.eq_of_getElem_eq <;> intro i hi
 ·simpa using (h i hi).1
 ·have := (h i hi).2
  simp only [BitVec.getElem_and, BitVec.getElem_or, BitVec.getElem_not, BitVec.getElem_zero]
  exact this
theorem fine_ov {p q : St} (hp : fine p) (hq : fine q) : fine (ov p q) := by
 refine fine_of fun i hi => ?_
 have h1 := fine_bits hp i hi
 have h2 := fine_bits hq i hi
 unfold ov
 simp only [BitVec.getElem_and, BitVec.getElem_or, BitVec.getElem_not]
 revert h1 h2
 cases p.1[i] <;> cases p.2[i] <;> cases q.1[i] <;> cases q.2[i] <;> cases (15#64)[i] <;> decide
theorem fine_says (x : List UInt8 × List UInt8) : fine (saysB x) := by
 have hs := wordsBGo_sub (splitL 32 x.2) 0#64 false (by unfold sub; decide)
 have h0 : fine (0#64, 0#64) := by unfold fine; decide
 have h1 : fine (1#64, 0#64) := by unfold fine; decide
 have h2 : fine (0#64, 1#64) := by unfold fine; decide
 have h3 : fine (2#64, 0#64) := by unfold fine; decide
 have h4 : fine (0#64, 2#64) := by unfold fine; decide
 have h5 : fine (0#64, 12#64) := by unfold fine; decide
 have h6 : ∀ v : BitVec 64, sub v 12#64 → fine (v, 12#64 &&& ~~~v) := fun v hv => by
  refine fine_of fun i hi => ?_
  have := congrArg (fun v => v[i]) hv
  have h12 : ((12#64)[i] && !(15#64)[i]) = false := by
   have : 12#64 &&& ~~~15#64 = 0#64 := by decide
   have := congrArg (fun v => v[i]) this
   simpa only [BitVec.getElem_and, BitVec.getElem_not, BitVec.getElem_zero] using this
  simp only [BitVec.getElem_and, BitVec.getElem_not, BitVec.getElem_zero] at this ⊢
  revert this h12
  cases v[i] <;> cases (12#64)[i] <;> cases (15#64)[i] <;> decide
 unfold saysB
 split
 ·exact h1
 ·split
  ·exact h1
  ·split
   ·exact h2
   ·split
    ·exact h2
    ·split
     ·exact h3
     ·split
      ·exact h4
      ·split
       ·exact h5
       ·split
        ·split
         ·exact h6 _ hs
         ·exact h0
        ·exact h0
def foldB (p : St) (l : List (List UInt8 × List UInt8)) : St := l.foldl (fun p x => ov p (saysB x)) p
theorem foldB_eq : ∀ (l : List (List UInt8 × List UInt8)) (p : St), l.foldl cssStep (enS p) = enS (foldB p l)
 | [], p => rfl
 | x :: l, p => by
  rw [List.foldl_cons, step_says, foldB_eq l]; rfl
theorem foldB_fine : ∀ (l : List (List UInt8 × List UInt8)) (p : St), fine p → fine (foldB p l)
 | [], _, h => h
 | x :: l, _, h => foldB_fine l _ (fine_ov h (fine_says x))
def parseB (l : List UInt8) : St := foldB (0#64, 0#64) (decls l)
theorem parse_eq (l : List UInt8) : cssParse l = enS (parseB l) := by
 unfold cssParse parseB
 rw [show ((0, 0) : Int × Int) = enS (0#64, 0#64) from Prod.ext en0 en0]
 exact foldB_eq _ _
theorem parse_fine (l : List UInt8) : fine (parseB l) := foldB_fine _ _ (by unfold fine; decide)
end Go.Proofs.Qw
namespace Go.Proofs.Qw
open Go.RowKit
def attrF (ats : List Att) (name : List UInt8) : Option (List UInt8) := (ats.find? fun a => decide (a.name = name)).map (·.value)
def styleN : List UInt8 := [115, 116, 121, 108, 101]
def hrefN : List UInt8 := [104, 114, 101, 102]
def saysN (n : Nod) : Int × Int := if n.tag = 11 then (1, 0) else if n.tag = 12 then (2, 0) else if n.tag = 13 then (4, 0) else if n.tag = 14 then (8, 0) else if n.tag = 15 then cssParse ((attrF n.attrs styleN).getD []) else (0, 0)
def bitsN (n : Nod) (around : Int) : Int := bits .or .i64 (bits .andNot .i64 around (saysN n).2) (saysN n).1
def linkN (n : Nod) (around : List UInt8) : List UInt8 := match attrF n.attrs hrefN with | some h => if n.tag = 10 ∧ targetF h = true then h else around | none => around
def wrap1 (b k tag : Int) (o : List Nod) : List Nod := if bits .and .i64 b k = 0 then o else [.mk tag [] [] o]
def wrapB (b : Int) (kids : List Nod) : List Nod := wrap1 b 1 11 (wrap1 b 2 12 (wrap1 b 4 13 (wrap1 b 8 14 kids)))
def wrapN (b : Int) (href : List UInt8) (kids : List Nod) : List Nod := if href = [] then wrapB b kids else [.mk 10 (hrefA href) [] (wrapB b kids)]
theorem says_fine (n : Nod) : ∃ p : St, fine p ∧ saysN n = enS p := by
 have hf : ∀ v : BitVec 64, v &&& ~~~15#64 = 0#64 → fine (v, 0#64) := fun v hv => ⟨by simp, by simpa using hv⟩
 unfold saysN
 split
 ·exact ⟨(1#64, 0#64), hf _ (by decide), by decide +kernel⟩
 ·split
  ·exact ⟨(2#64, 0#64), hf _ (by decide), by decide +kernel⟩
  ·split
   ·exact ⟨(4#64, 0#64), hf _ (by decide), by decide +kernel⟩
   ·split
    ·exact ⟨(8#64, 0#64), hf _ (by decide), by decide +kernel⟩
    ·split
     ·exact ⟨_, parse_fine _, parse_eq _⟩
     ·exact ⟨(0#64, 0#64), hf _ (by decide), by decide +kernel⟩
theorem and_bit (v : BitVec 64) (m : BitVec 64) (j : Nat) (hj : j < 64) (hm : ∀ i (hi : i < 64), m[i] = decide (i = j)) : (v &&& m = 0#64 ↔ v[j] = false) := by
 constructor
 ·intro h
  have := congrArg (fun x : BitVec 64 => x[j]) h
  simp only [BitVec.getElem_and, hm j hj, BitVec.getElem_zero] at this
  simpa using this
 ·intro h
  apply BitVec.eq_of_getElem_eq
  intro i hi
  simp only [BitVec.getElem_and, hm i hi, BitVec.getElem_zero]
  by_cases e : i = j
  ·subst e; simp [h]
  ·simp [e]
end Go.Proofs.Qw
namespace Go.Proofs.Qw
open Go.RowKit
def tagC (t : Int) : Int := if t < 0 ∨ 16 < t then 0 else if t = 0 then 1 else if t = 1 ∨ t = 6 ∨ t = 7 ∨ t = 8 then 2 else if (2 ≤ t ∧ t ≤ 5) ∨ t = 9 then 3 else if t = 16 then 5 else 4
def headT (t : Int) : Int := if 3 ≤ t ∧ t ≤ 5 then t - 2 else 0
structure Aro where
 quote : Int
 lists : List Int
 kind : Int
 bits : Int
 href : List UInt8
structure VSt where
 lines : List Lin
 cells : Nat
 opn : Bool
 spot : Int
 pos : Ps
abbrev Plc := Option (List Int × Int)
def frameA (a : Aro) : Lin := ⟨a.quote, a.lists, if a.lists = [] then a.kind else 0, []⟩
def beginV (a : Aro) (s : VSt) : VSt := ⟨s.lines ++ [frameA a], s.cells, true, if s.spot = 1 then 2 else s.spot, if s.spot = 1 then ⟨s.lines.length, 0⟩ else s.pos⟩
def lastD (f : Lin → Lin) (d : List Lin) : List Lin := d.dropLast ++ (d.getLast?.map f).toList
def addV (a : Aro) (c : Int) (s : VSt) : VSt := { s with lines := lastD (fun l => { l with cells := l.cells ++ [⟨c, a.bits, a.href⟩] }) s.lines, cells := s.cells + 1 }
def putV (a : Aro) (c : Int) (s : VSt) : VSt := addV a c (if s.opn = true then s else beginV a s)
def metV (s : VSt) : VSt := if s.spot ≠ 0 then s else if s.opn = true then { s with spot := 2, pos := ⟨(s.lines.length : Int) - 1, ((s.lines.getLastD default).cells.length : Int)⟩ } else { s with spot := 1 }
def flatR (l : List Int) : List Int := l.filterMap flatC
def textV (a : Aro) : List Int → Option Int → VSt → VSt
 | [], at_, s => match at_ with | some k => if 0 ≤ k then metV s else s | none => s
 | c :: l, at_, s =>
  let s := if at_ = some 0 then metV s else s
  textV a l (at_.map (· - 1)) (match flatC c with | some c => putV a c s | none => s)
def asideT (t : Int) : Bool := decide (tagC t = 1) || decide (tagC t = 5)
def normP (t : Int) (n : Nat) : Plc → Plc
 | none => none
 | some ([], k) => some ([], if k < 0 then 0 else k)
 | some (i :: p, k) => if asideT t = true ∨ i < 0 ∨ (n : Int) ≤ i then some ([], 0) else if k < 0 then some (i :: p, 0) else some (i :: p, k)
def boxA (t : Int) (a : Aro) : Aro := if t = 6 then { a with quote := min (a.quote + 1) 6 } else if t ≠ 1 ∧ a.lists.length < 6 then { a with lists := a.lists ++ [t - 7] } else a
mutual
def nodeV : Nod → Aro → Plc → VSt → VSt
 | .mk t ats x ks, a, p0, s =>
  let p := normP t ks.length p0
  if tagC t = 1 then textV a (runesB ⟨x.toArray⟩) (p.map (·.2)) s
  else if tagC t = 5 then putV a 10 (if p.isSome = true then metV s else s)
  else if tagC t = 3 then
   let s1 : VSt := { s with opn := false }
   let a1 : Aro := { a with kind := headT t }
   let s2 := kidsV ks 0 a1 p s1
   let s3 := if s2.lines.length = s.lines.length then beginV a1 s2 else s2
   { s3 with opn := false }
  else if tagC t = 2 then
   let s2 := kidsV ks 0 (boxA t a) p { s with opn := false }
   { s2 with opn := false }
  else kidsV ks 0 { a with bits := bitsN (.mk t ats x ks) a.bits, href := linkN (.mk t ats x ks) a.href } p s
def kidsV : List Nod → Nat → Aro → Plc → VSt → VSt
 | [], _, _, p, s => match p with | some ([], _) => metV s | _ => s
 | k :: ks, i, a, p, s =>
  kidsV ks (i + 1) a p (match p with
   | none => nodeV k a none s
   | some ([], at_) => nodeV k a none (if at_ = i then metV s else s)
   | some (j :: path, at_) => if j = i then nodeV k a (some (path, at_)) s else nodeV k a none s)
end
def aro0 : Aro := ⟨0, [], 0, 0, []⟩
def vst0 : VSt := ⟨[], 0, false, 0, ⟨0, 0⟩⟩
def goesV (n : Nod) (p : Plc) : VSt := let s := nodeV n aro0 p vst0; if s.lines = [] then beginV aro0 s else s
def longV (s : VSt) : Bool := decide (200 < s.lines.length) || decide (4000 < s.cells)
def viewN (n : Nod) : List Lin × Int := if longV (goesV n none) = true then ([], 10) else ((goesV n none).lines, 0)
def posN (n : Nod) (p : List Int × Int) : Ps × Int := let s := goesV n (some p); if longV s = true then (⟨0, 0⟩, 10) else if s.spot = 1 then (⟨(s.lines.length : Int) - 1, ((s.lines.getLastD default).cells.length : Int)⟩, 0) else (s.pos, 0)
end Go.Proofs.Qw
namespace Go.Proofs.Qw
open Go.RowKit
theorem runes_back (l : List Int) (h : ∀ c ∈ l, mayR c = true) : runesB ⟨(txtL l).toArray⟩ = l := runesB_of l (fun c hc => mayR_valid (h c hc))
def lvBit (j : Nat) (c : Cel) : Option Wr := if bits .and .i64 c.bits (2 ^ j) = 0 then none else some (11 + (j : Int), [])
def rowK : List (Cel → Option Wr) := [lvHref, lvBit 0, lvBit 1, lvBit 2, lvBit 3]
theorem kids_none : ∀ (ks : List Nod) (i : Nat) (a : Aro) (s : VSt), kidsV ks i a none s = ks.foldl (fun s k => nodeV k a none s) s
 | [], i, a, s => by unfold kidsV; rfl
 | k :: ks, i, a, s => by rw [kidsV, kids_none ks]; rfl
def putC (a : Aro) (s : VSt) (c : Cel) : VSt := putV { a with bits := c.bits, href := c.href } c.r s
def kidsN (ks : List Nod) (a : Aro) (s : VSt) : VSt := ks.foldl (fun s k => nodeV k a none s) s
theorem kidsN_append (x y : List Nod) (a : Aro) (s : VSt) : kidsN (x ++ y) a s = kidsN y a (kidsN x a s) := by unfold kidsN; rw [List.foldl_append]
theorem tag_in {t : Int} (h : 10 ≤ t ∧ t ≤ 14) : tagC t = 4 := by
 unfold tagC
 rw [if_neg (by omega), if_neg (by omega), if_neg (by omega), if_neg (by omega), if_neg (by omega)]
theorem node_inline {t : Int} (h : 10 ≤ t ∧ t ≤ 14) (ats : List Att) (x : List UInt8) (ks : List Nod) (a : Aro) (s : VSt) :
  nodeV (.mk t ats x ks) a none s = kidsN ks { a with bits := bitsN (.mk t ats x ks) a.bits, href := linkN (.mk t ats x ks) a.href } s := by
 rw [nodeV]
 have e := tag_in h
 simp only [e, normP]
 rw [if_neg (by decide), if_neg (by decide), if_neg (by decide), if_neg (by decide), kids_none]
 rfl
def CelOk (c : Cel) : Prop := (mayR c.r = true ∨ c.r = 10) ∧ 0 ≤ c.bits ∧ c.bits ≤ 15 ∧ (c.href = [] ∨ targetF c.href = true)
def Said (j : Nat) (a : Aro) (c : Cel) : Prop := a.bits = bits .and .i64 c.bits (2 ^ j - 1) ∧ a.href = c.href
theorem textV_none (a : Aro) : ∀ (l : List Int) (s : VSt), (∀ c ∈ l, mayR c = true) → textV a l none s = l.foldl (fun s c => putV a c s) s
 | [], s, _ => by unfold textV; rfl
 | c :: l, s, h => by
  rw [textV]
  simp only [flat_may c (h c (by simp)), Option.map_none, List.foldl_cons]
  rw [if_neg (by simp), textV_none a l _ (fun c hc => h c (by simp [hc]))]
theorem node_text (l : List Int) (a : Aro) (s : VSt) (h : ∀ c ∈ l, mayR c = true) : nodeV (txtN l) a none s = l.foldl (fun s c => putV a c s) s := by
 unfold txtN
 rw [nodeV]
 have e : tagC 0 = 1 := by decide
 simp only [e, normP, Option.map_none]
 rw [if_pos trivial, runes_back l h, textV_none a l s h]
theorem node_br (a : Aro) (s : VSt) : nodeV brN a none s = putV a 10 s := by
 unfold brN
 rw [nodeV]
 have e : tagC 16 = 5 := by decide
 simp only [e, normP]
 rw [if_neg (by decide), if_pos trivial]
 rfl
theorem aro_said {a : Aro} {c : Cel} (hs : Said 4 a c) (hc : CelOk c) : ({ a with bits := c.bits, href := c.href } : Aro) = a := by
 obtain ⟨h1, h2⟩ := hs
 have : a.bits = c.bits := by rw [h1]; exact bits_all c.bits hc.2.1 hc.2.2.1
 rw [← this, ← h2]
theorem parts_sub {α : Type} (r : α → α → Bool) (l : List α) {p : List α} (hp : p ∈ partsBy r l) {x : α} (hx : x ∈ p) : x ∈ l := by
 rw [← parts_flat r _ l (Nat.le_refl _)]
 exact List.mem_flatten.2 ⟨p, hp, hx⟩
theorem part_text : ∀ (n : Nat) (l : List Cel), l.length ≤ n → ∀ p ∈ partsBy textR l, (p = [p.headD default] ∧ (p.headD default).r = 10) ∨ (∀ c ∈ p, c.r ≠ 10)
 | 0, l, hl => by
  have : l = [] := List.length_eq_zero_iff.1 (by omega)
  subst this
  rw [parts_nil]; simp
 | n + 1, [], _ => by rw [parts_nil]; simp
 | n + 1, a :: l, hl => by
  rw [parts_cons]
  intro p hp
  rcases List.mem_cons.1 hp with rfl | h
  ·by_cases ha : a.r = 10
   ·have : l.takeWhile (textR a) = [] := by
     cases l with
     | nil => rfl
     | cons y ys => rw [List.takeWhile_cons_of_neg (by unfold textR; simp [ha])]
    rw [this]
    exact .inl ⟨rfl, ha⟩
   ·right
    intro c hc
    rcases List.mem_cons.1 hc with rfl | hc
    ·exact ha
    ·have := List.all_takeWhile (l := l) (p := textR a)
     rw [List.all_eq_true] at this
     have := this c hc
     unfold textR at this
     simp at this
     exact this.2
  ·exact part_text n _ (by have := (List.dropWhile_suffix (l := l) (textR a)).length_le; simp at hl; omega) p h
theorem fold_parts {α σ : Type} (r : α → α → Bool) (l : List α) (f : σ → α → σ) (s : σ) : (partsBy r l).foldl (fun s p => p.foldl f s) s = l.foldl f s := by
 conv => rhs; rw [← parts_flat r _ l (Nat.le_refl _)]
 rw [List.foldl_flatten]
theorem foldl_congr {α σ : Type} {f g : σ → α → σ} : ∀ (l : List α) (s : σ), (∀ s, ∀ x ∈ l, f s x = g s x) → l.foldl f s = l.foldl g s
 | [], s, _ => rfl
 | x :: l, s, h => by rw [List.foldl_cons, List.foldl_cons, h s x (by simp), foldl_congr l _ (fun s y hy => h s y (by simp [hy]))]
theorem leaves_view (l : List Cel) (a : Aro) (s : VSt) (hc : ∀ c ∈ l, CelOk c) (hs : ∀ c ∈ l, Said 4 a c) : kidsN (leavesN l) a s = l.foldl (putC a) s := by
 unfold leavesN kidsN
 rw [List.foldl_map, ← fold_parts textR l (putC a) s]
 refine foldl_congr _ _ (fun s p hp => ?_)
 have hsub : ∀ x ∈ p, x ∈ l := fun x hx => parts_sub textR l hp hx
 unfold leafP
 rcases part_text _ l (Nat.le_refl _) p hp with ⟨h1, h2⟩ | h
 ·rw [if_pos h2, node_br]
  have hm : p.headD default ∈ l := hsub _ (by rw [h1]; simp)
  conv => rhs; rw [h1]
  simp only [List.foldl_cons, List.foldl_nil]
  unfold putC
  rw [aro_said (hs _ hm) (hc _ hm), h2]
 ·have hne := parts_ne textR _ l (Nat.le_refl _) p hp
  have hh : p.headD default ∈ p := by
   cases p with
   | nil => exact absurd rfl hne
   | cons a l => simp
  rw [if_neg (h _ hh), node_text _ _ _ (fun c hc' => by
   obtain ⟨x, hx, rfl⟩ := List.mem_map.1 hc'
   exact (hc x (hsub x hx)).1.elim id (fun e => absurd e (h x hx))), List.foldl_map]
  refine foldl_congr _ _ (fun s x hx => ?_)
  unfold putC
  rw [aro_said (hs x (hsub x hx)) (hc x (hsub x hx))]
theorem level_view (k : Cel → Option Wr) (ks : List (Cel → Option Wr)) (l : List Cel) (a : Aro) (s : VSt)
  (h : ∀ p ∈ partsBy (fun a b => decide (k a = k b)) l, ∀ s, kidsN (wrapO (k (p.headD default)) (gr ks p)) a s = p.foldl (putC a) s) : kidsN (gr (k :: ks) l) a s = l.foldl (putC a) s := by
 unfold gr kidsN
 rw [List.foldl_flatMap, ← fold_parts (fun a b => decide (k a = k b)) l (putC a) s]
 exact foldl_congr _ _ (fun s p hp => h p hp s)
def bitsK : Nat → List (Cel → Option Wr)
 | 0 => []
 | n + 1 => lvBit (3 - n) :: bitsK n
theorem kidsN_one (n : Nod) (a : Aro) (s : VSt) : kidsN [n] a s = nodeV n a none s := rfl
theorem putC_aro {a a' : Aro} (h1 : a'.quote = a.quote) (h2 : a'.lists = a.lists) (h3 : a'.kind = a.kind) : putC a' = putC a := by
 funext s c
 unfold putC
 rw [h1, h2, h3]
theorem bits_view : ∀ (n : Nat) (l : List Cel) (a : Aro) (s : VSt), n ≤ 4 → (∀ c ∈ l, CelOk c) → (∀ c ∈ l, Said (4 - n) a c) → kidsN (gr (bitsK n) l) a s = l.foldl (putC a) s
 | 0, l, a, s, _, hc, hs => leaves_view l a s hc hs
 | n + 1, l, a, s, hn, hc, hs => by
  unfold bitsK
  refine level_view _ _ l a s (fun p hp s => ?_)
  have hsub : ∀ x ∈ p, x ∈ l := fun x hx => parts_sub _ l hp hx
  have hkey := key_all _ l (Nat.le_refl _) p hp
  have hj : 3 - n < 4 := by omega
  have e4 : 4 - (n + 1) = 3 - n := by omega
  have e5 : 3 - n + 1 = 4 - n := by omega
  cases hk : lvBit (3 - n) (p.headD default) with
  | none =>
   simp only [wrapO]
   refine bits_view n p a s (by omega) (fun c h => hc c (hsub c h)) (fun c h => ?_)
   have h1 := hs c (hsub c h)
   rw [e4] at h1
   have h2 := hkey c h
   rw [hk] at h2
   unfold lvBit at h2
   split at h2
   ·rename_i h3
    have hok := hc c (hsub c h)
    rcases bits_up c.bits (3 - n) hok.2.1 hok.2.2.1 hj with h4 | h4
    ·refine ⟨?_, h1.2⟩
     rw [h1.1, ← h4.2, e5]
    ·exact absurd h3 h4.1
   ·cases h2
  | some w =>
   simp only [wrapO, kidsN_one]
   have hw : w = (11 + ((3 - n : Nat) : Int), []) := by
    unfold lvBit at hk
    split at hk
    ·cases hk
    ·injection hk with hk; exact hk.symm
   subst hw
   rw [node_inline (by omega)]
   have hb : bitsN (.mk (11 + ((3 - n : Nat) : Int)) [] [] (gr (bitsK n) p)) a.bits = bits .or .i64 (bits .andNot .i64 a.bits 0) (2 ^ (3 - n)) := by
    have : n = 0 ∨ n = 1 ∨ n = 2 ∨ n = 3 := by omega
    rcases this with rfl | rfl | rfl | rfl <;> rfl
   have hl : linkN (.mk (11 + ((3 - n : Nat) : Int)) [] [] (gr (bitsK n) p)) a.href = a.href := rfl
   rw [hb, hl, bits_view n p _ s (by omega) (fun c h => hc c (hsub c h)) (fun c h => ?_)]
   ·exact congrArg (fun f => p.foldl f s) (putC_aro rfl rfl rfl)
   ·have h1 := hs c (hsub c h)
    rw [e4] at h1
    have h2 := hkey c h
    rw [hk] at h2
    unfold lvBit at h2
    split at h2
    ·cases h2
    ·rename_i h3
     have hok := hc c (hsub c h)
     rcases bits_up c.bits (3 - n) hok.2.1 hok.2.2.1 hj with h4 | h4
     ·exact absurd h4.1 h3
     ·refine ⟨?_, h1.2⟩
      show bits .or .i64 (bits .andNot .i64 a.bits 0) (2 ^ (3 - n)) = _
      rw [h1.1, h4.2, e5]
theorem row_view (l : List Cel) (a : Aro) (s : VSt) (hc : ∀ c ∈ l, CelOk c) (ha : a.bits = 0 ∧ a.href = []) : kidsN (gr rowK l) a s = l.foldl (putC a) s := by
 have e : rowK = lvHref :: bitsK 4 := rfl
 rw [e]
 refine level_view _ _ l a s (fun p hp s => ?_)
 have hsub : ∀ x ∈ p, x ∈ l := fun x hx => parts_sub _ l hp hx
 have hkey := key_all _ l (Nat.le_refl _) p hp
 have hne := parts_ne _ _ l (Nat.le_refl _) p hp
 have hh : p.headD default ∈ p := by
  cases p with
  | nil => exact absurd rfl hne
  | cons a l => simp
 have hz : ∀ c : Cel, bits .and .i64 c.bits (2 ^ (4 - 4) - 1) = 0 := fun c => bits_none c.bits
 cases hk : lvHref (p.headD default) with
 | none =>
  simp only [wrapO]
  refine bits_view 4 p a s (by omega) (fun c h => hc c (hsub c h)) (fun c h => ?_)
  have h2 := hkey c h
  rw [hk] at h2
  unfold lvHref at h2
  split at h2
  ·rename_i h3
   exact ⟨by rw [ha.1, hz], by rw [ha.2, h3]⟩
  ·cases h2
 | some w =>
  simp only [wrapO, kidsN_one]
  have hhr : ∀ c ∈ p, c.href = (p.headD default).href := fun c h => by
   have h2 := hkey c h
   rw [hk] at h2
   unfold lvHref at h2 hk
   split at h2
   ·cases h2
   split at hk
   ·cases hk
   rw [← h2] at hk
   injection hk with hk
   injection hk with _ hk
   unfold hrefA at hk
   injection hk with hk _
   injection hk with _ hk
   exact hk.symm
  have hw : w = (10, hrefA (p.headD default).href) := by
   unfold lvHref at hk
   split at hk
   ·cases hk
   ·injection hk with hk; exact hk.symm
  have hne2 : (p.headD default).href ≠ [] := by
   intro e
   unfold lvHref at hk
   rw [if_pos e] at hk
   cases hk
  subst hw
  rw [node_inline (by omega)]
  have hok := hc _ (hsub _ hh)
  have ht : targetF (p.headD default).href = true := hok.2.2.2.elim (fun e => absurd e hne2) id
  have hb : bitsN (.mk 10 (hrefA (p.headD default).href) [] (gr (bitsK 4) p)) a.bits = 0 := by
   rw [ha.1]
   exact band_or0 0 (by decide) (by decide)
  have hl : linkN (.mk 10 (hrefA (p.headD default).href) [] (gr (bitsK 4) p)) a.href = (p.headD default).href := by
   unfold linkN
   have : attrF (Nod.mk 10 (hrefA (p.headD default).href) [] (gr (bitsK 4) p)).attrs hrefN = some (p.headD default).href := rfl
   rw [this]
   exact if_pos ⟨rfl, ht⟩
  rw [hb, hl, bits_view 4 p _ s (by omega) (fun c h => hc c (hsub c h)) (fun c h => ⟨(hz c).symm, (hhr c h).symm⟩)]
  exact congrArg (fun f => p.foldl f s) (putC_aro rfl rfl rfl)
end Go.Proofs.Qw
namespace Go.Proofs.Qw
open Go.RowKit
def runTo {α : Type} (r : α → α → Bool) (a : α) (d : List α) (i : Nat) : Nat := i + ((d.drop i).takeWhile (r a)).length
theorem runTo_yes {α : Type} {r : α → α → Bool} {a x : α} {d : List α} {i : Nat} (h : d.drop i = x :: d.drop (i + 1)) (hr : r a x = true) : runTo r a d i = runTo r a d (i + 1) := by
 unfold runTo
 rw [h, List.takeWhile_cons_of_pos hr, List.length_cons]
 omega
theorem runTo_no {α : Type} {r : α → α → Bool} {a x : α} {d : List α} {i : Nat} (h : d.drop i = x :: d.drop (i + 1)) (hr : r a x = false) : runTo r a d i = i := by
 unfold runTo
 rw [h, List.takeWhile_cons_of_neg (by simp [hr])]
 rfl
theorem runTo_end {α : Type} {r : α → α → Bool} {a : α} {d : List α} : runTo r a d d.length = d.length := by
 unfold runTo
 rw [List.drop_length]
 rfl
theorem drop_while {α : Type} {p : α → Bool} : ∀ (l : List α), l.drop (l.takeWhile p).length = l.dropWhile p
 | [] => rfl
 | x :: l => by
  by_cases h : p x = true
  ·rw [List.takeWhile_cons_of_pos h, List.dropWhile_cons_of_pos h, List.length_cons, List.drop_succ_cons, drop_while l]
  ·rw [List.takeWhile_cons_of_neg h, List.dropWhile_cons_of_neg h]
   rfl
theorem take_while {α : Type} {p : α → Bool} : ∀ (l : List α), l.take (l.takeWhile p).length = l.takeWhile p
 | [] => rfl
 | x :: l => by
  by_cases h : p x = true
  ·rw [List.takeWhile_cons_of_pos h, List.length_cons, List.take_succ_cons, take_while l]
  ·rw [List.takeWhile_cons_of_neg h]
   rfl
def cutP {α : Type} (d : List α) (x : Nat × Nat) : List α := (d.drop x.1).take (x.2 - x.1)
theorem parts_cut {α : Type} {r : α → α → Bool} {a : α} {d : List α} {i : Nat} (h : d.drop i = a :: d.drop (i + 1)) : partsBy r (d.drop i) = cutP d (i, runTo r a d (i + 1)) :: partsBy r (d.drop (runTo r a d (i + 1))) := by
 rw [h, parts_cons]
 have e1 : runTo r a d (i + 1) - i = ((d.drop (i + 1)).takeWhile (r a)).length + 1 := by unfold runTo; omega
 congr 1
 ·unfold cutP
  simp only
  rw [e1, h, List.take_succ_cons, take_while]
 ·have e : d.drop (runTo r a d (i + 1)) = (d.drop (i + 1)).dropWhile (r a) := by
   unfold runTo
   have e0 : ((d.drop (i + 1)).drop ((d.drop (i + 1)).takeWhile (r a)).length) = d.drop (i + 1 + ((d.drop (i + 1)).takeWhile (r a)).length) := by rw [List.drop_drop]
   rw [← e0, drop_while]
  rw [e]
def CutOk {α : Type} (d : List α) (x : Nat × Nat) : Prop := x.1 < x.2 ∧ x.2 ≤ d.length
theorem parts_snoc2 {α : Type} {r : α → α → Bool} {a : α} {d : List α} {i : Nat} {pre : List (Nat × Nat)} (hp : pre.map (cutP d) ++ partsBy r (d.drop i) = partsBy r d) (h : d.drop i = a :: d.drop (i + 1)) :
  (pre ++ [(i, runTo r a d (i + 1))]).map (cutP d) ++ partsBy r (d.drop (runTo r a d (i + 1))) = partsBy r d := by
 rw [← hp, parts_cut (r := r) h, List.map_append, List.append_assoc]
 rfl
theorem parts_all {α : Type} {r : α → α → Bool} {d : List α} {pre : List (Nat × Nat)} (hp : pre.map (cutP d) ++ partsBy r (d.drop d.length) = partsBy r d) : pre.map (cutP d) = partsBy r d := by
 rw [← hp, List.drop_length, parts_nil, List.append_nil]
theorem cut_cons {α : Type} {r : α → α → Bool} {a : α} {d : List α} {i j : Nat} (h : d.drop i = a :: d.drop (i + 1)) (hj : runTo r a d (i + 1) = j) : cutP d (i, j) = a :: (d.drop (i + 1)).takeWhile (r a) := by
 have e := parts_cut (r := r) h
 rw [hj] at e
 have e2 : partsBy r (d.drop i) = (a :: (d.drop (i + 1)).takeWhile (r a)) :: partsBy r ((d.drop (i + 1)).dropWhile (r a)) := by
  conv => lhs; rw [h]
  rw [parts_cons]
 rw [e2] at e
 exact (List.cons.inj e).1.symm
def CutR {α : Type} (r : α → α → Bool) (d : List α) (x : Nat × Nat) : Prop := CutOk d x ∧ ∀ a l, cutP d x = a :: l → ∀ y ∈ l, r a y = true
theorem cut_run {α : Type} {r : α → α → Bool} {a : α} {d : List α} {i j : Nat} (h : d.drop i = a :: d.drop (i + 1)) (hj : runTo r a d (i + 1) = j) : ∀ a' l', cutP d (i, j) = a' :: l' → ∀ y ∈ l', r a' y = true := by
 intro a' l' e y hy
 rw [cut_cons h hj] at e
 cases e
 have := List.all_takeWhile (l := d.drop (i + 1)) (p := r a)
 rw [List.all_eq_true] at this
 exact this y hy
abbrev PartY {α : Type} (r : α → α → Bool) (d : List α) : Type := { x : Nat × Nat // CutR r d x }
end Go.Proofs.Qw
namespace Go.Proofs.Qw
open Go.RowKit
theorem bit_or (v : BitVec 64) (m : BitVec 64) (j : Nat) (hj : j < 64) (hm : ∀ i (hi : i < 64), m[i] = decide (i = j)) : v &&& m = 0#64 ∨ v &&& m = m := by
 cases h : v[j] with
 | false => exact .inl ((and_bit v m j hj hm).2 h)
 | true =>
  refine .inr (BitVec.eq_of_getElem_eq fun i hi => ?_)
  simp only [BitVec.getElem_and, hm i hi]
  by_cases e : i = j
  ·subst e; simp [h]
  ·simp [e]
theorem bit_two : ∀ (j : Nat), j ≤ 3 → ∀ x : Int, bits .and .i64 x (2 ^ j) = 0 ∨ bits .and .i64 x (2 ^ j) = 2 ^ j
 | 0, _, x => by
  rcases bit_or (BitVec.ofInt 64 x) 1#64 0 (by decide) (by decide) with h | h
  ·exact .inl (by show en (BitVec.ofInt 64 x &&& 1#64) = 0; rw [h]; decide +kernel)
  ·exact .inr (by show en (BitVec.ofInt 64 x &&& 1#64) = 1; rw [h]; decide +kernel)
 | 1, _, x => by
  rcases bit_or (BitVec.ofInt 64 x) 2#64 1 (by decide) (by decide) with h | h
  ·exact .inl (by show en (BitVec.ofInt 64 x &&& 2#64) = 0; rw [h]; decide +kernel)
  ·exact .inr (by show en (BitVec.ofInt 64 x &&& 2#64) = 2; rw [h]; decide +kernel)
 | 2, _, x => by
  rcases bit_or (BitVec.ofInt 64 x) 4#64 2 (by decide) (by decide) with h | h
  ·exact .inl (by show en (BitVec.ofInt 64 x &&& 4#64) = 0; rw [h]; decide +kernel)
  ·exact .inr (by show en (BitVec.ofInt 64 x &&& 4#64) = 4; rw [h]; decide +kernel)
 | 3, _, x => by
  rcases bit_or (BitVec.ofInt 64 x) 8#64 3 (by decide) (by decide) with h | h
  ·exact .inl (by show en (BitVec.ofInt 64 x &&& 8#64) = 0; rw [h]; decide +kernel)
  ·exact .inr (by show en (BitVec.ofInt 64 x &&& 8#64) = 8; rw [h]; decide +kernel)
 | n + 4, h, _ => by omega
theorem two_ne (j : Nat) : (2 : Int) ^ j ≠ 0 := by
 have : (0 : Int) < 2 ^ j := by exact Int.pow_pos (by decide)
 omega
def bitR (j : Nat) (a b : Cel) : Bool := decide (lvBit j a = lvBit j b)
def hrefR (a b : Cel) : Bool := decide (lvHref a = lvHref b)
theorem bitR_is {j : Nat} (hj : j ≤ 3) (a b : Cel) : bitR j a b = (bits .and .i64 a.bits (2 ^ j) == bits .and .i64 b.bits (2 ^ j)) := by
 unfold bitR lvBit
 rcases bit_two j hj a.bits with h1 | h1 <;> rcases bit_two j hj b.bits with h2 | h2 <;> rw [h1, h2] <;> simp [two_ne j, Ne.symm (two_ne j)]
theorem hrefR_is (a b : Cel) : hrefR a b = (a.href == b.href) := by
 unfold hrefR
 by_cases h : a.href = b.href
 ·have e : lvHref a = lvHref b := by unfold lvHref; rw [h]
  rw [decide_eq_true e, h]
  simp
 ·have e : lvHref a ≠ lvHref b := fun e => h (by
   unfold lvHref at e
   by_cases h1 : a.href = []
   ·by_cases h2 : b.href = []
    ·rw [h1, h2]
    ·rw [if_pos h1, if_neg h2] at e; cases e
   ·by_cases h2 : b.href = []
    ·rw [if_neg h1, if_pos h2] at e; cases e
    ·rw [if_neg h1, if_neg h2] at e
     simp only [Option.some.injEq, Prod.mk.injEq, true_and] at e
     unfold hrefA at e
     simp only [List.cons.injEq, Att.mk.injEq, true_and, and_true] at e
     exact e)
  rw [decide_eq_false e]
  symm
  simpa using h
theorem wrap_bit : ∀ (j : Nat), j ≤ 3 → ∀ (c : Cel) (kids : List Nod), wrapN (bits .and .i64 c.bits (2 ^ j)) [] kids = wrapO (lvBit j c) kids
 | 0, h, c, kids => by
  unfold wrapN lvBit wrapB wrap1
  rw [if_pos rfl]
  rcases bit_two 0 h c.bits with h1 | h1 <;> rw [h1] <;> rfl
 | 1, h, c, kids => by
  unfold wrapN lvBit wrapB wrap1
  rw [if_pos rfl]
  rcases bit_two 1 h c.bits with h1 | h1 <;> rw [h1] <;> rfl
 | 2, h, c, kids => by
  unfold wrapN lvBit wrapB wrap1
  rw [if_pos rfl]
  rcases bit_two 2 h c.bits with h1 | h1 <;> rw [h1] <;> rfl
 | 3, h, c, kids => by
  unfold wrapN lvBit wrapB wrap1
  rw [if_pos rfl]
  rcases bit_two 3 h c.bits with h1 | h1 <;> rw [h1] <;> rfl
 | n + 4, h, _, _ => by omega
theorem wrap_href (c : Cel) (kids : List Nod) : wrapN 0 c.href kids = wrapO (lvHref c) kids := by
 unfold wrapN lvHref
 by_cases h : c.href = []
 ·rw [if_pos h, if_pos h]; rfl
 ·rw [if_neg h, if_neg h]; rfl
theorem gr_bit (j n : Nat) (l : List Cel) (h : 3 - n = j) : gr (bitsK (n + 1)) l = (partsBy (bitR j) l).flatMap fun p => wrapO (lvBit j (p.headD default)) (gr (bitsK n) p) := by
 subst h
 rfl
theorem gr_href (l : List Cel) : gr rowK l = (partsBy hrefR l).flatMap fun p => wrapO (lvHref (p.headD default)) (gr (bitsK 4) p) := rfl
end Go.Proofs.Qw
namespace Go.Proofs.YtjpgffihafknlaaGreatDoor
open Go.RowKit
open Go.Proofs.Qw
def CellsSaid (d : List Cel) (err : Int) (w : World) (e : Ending) (w' : World) : Prop := ∃ v', e = .returned (.tuple #[v', .int .i64 err]) ∧ CelsR true w' (fun b => w.heap.size ≤ b) v' d ∧ Below w.heap.size w w'
theorem CellsSaid.from {d : List Cel} {err : Int} {w W : World} {e : Ending} {w' : World} (h : CellsSaid d err W e w') (hb : Below w.heap.size w W) : CellsSaid d err w e w' := by
 obtain ⟨v', h1, h2, h3⟩ := h
 exact ⟨v', h1, SliceR.stable (rdOf_stable _) h2 (Keeps.refl _ _) (fun b h _ => Nat.le_trans hb.size h), below_from hb h3⟩
end Go.Proofs.YtjpgffihafknlaaGreatDoor
namespace Go.Proofs.Qw
open Go.RowKit Go.Proofs.YtjpgffihafknlaaGreatDoor
def setRow (C : List Cel → Nat → Nat → List Cel) (D : Doc) (x : Nat × Nat × Nat) : Doc := D.set x.1 { (D.getD x.1 default) with cells := C (D.getD x.1 default).cells x.2.1 x.2.2 }
def Alike (D E : Doc) : Prop := D.length = E.length ∧ ∀ (k : Nat) (l : Lin), D[k]? = some l → ∃ m, E[k]? = some m ∧ m.cells.length = l.cells.length
theorem Alike.refl (D : Doc) : Alike D D := ⟨rfl, fun _ l h => ⟨l, h, rfl⟩⟩
theorem Alike.trans {D E F : Doc} (h : Alike D E) (k : Alike E F) : Alike D F := ⟨h.1.trans k.1, fun i l hl => by
 obtain ⟨m, h1, h2⟩ := h.2 i l hl
 obtain ⟨n, h3, h4⟩ := k.2 i m h1
 exact ⟨n, h3, h4.trans h2⟩⟩
end Go.Proofs.Qw
namespace Go.Proofs.YtjpgffihafknlaaGreatDoor
open Go.RowKit
open Go.Proofs.Qw
attribute [local go_sem] Oper.semAt_some
theorem cell_on {w : World} {p : Addr} {u : Value} (h : w.cell? p = some u) : ∀ ob, (w.alloc ob).cell? p = some u := fun _ => (World.cell?_alloc_lt _ _ _ (World.block_lt_of_cell? w p h)).trans h
end Go.Proofs.YtjpgffihafknlaaGreatDoor
namespace Go.Proofs.YtjpgffihafknlaaGreatDoor
open Go.RowKit
open Go.Proofs.Qw
attribute [local go_sem ↓] Go.wp_at_zero Go.wp_at_succ
theorem textR_is (a b : Cel) : textR a b = ((a.r != 10) && (b.r != 10)) := by
 unfold textR
 by_cases h1 : a.r = 10 <;> by_cases h2 : b.r = 10 <;> simp [h1, h2]
set_option maxHeartbeats 1000000 in
theorem al_leaves (x y : Cel) (w : World) : Calls Tryz.prog 170 #[.agg #[.int .i32 x.r, .int .i64 x.bits, .string ⟨x.href.toArray⟩], .agg #[.int .i32 y.r, .int .i64 y.bits, .string ⟨y.href.toArray⟩]] w fun e w' => e = .returned (.bool (textR x y)) ∧ Below w.heap.size w w' := by
 rw [textR_is]
 cases b1 : (x.r != 10)
 ·go_enter Tryz.func170, Tryz.ntmps170
  go_wp2_with fail
  go_ret
  exact ⟨by simp, ((Below.refl _ _).alloc (Nat.le_refl _) _).alloc (by simp) _⟩
 ·cases b2 : (y.r != 10)
  all_goals
   go_enter Tryz.func170, Tryz.ntmps170
   go_wp2_with fail
   go_ret
   exact ⟨by simp, ((Below.refl _ _).alloc (Nat.le_refl _) _).alloc (by simp) _⟩
set_option maxHeartbeats 1000000 in
theorem al_row (x y : Cel) (w : World) : Calls Tryz.prog 134 #[.agg #[.int .i32 x.r, .int .i64 x.bits, .string ⟨x.href.toArray⟩], .agg #[.int .i32 y.r, .int .i64 y.bits, .string ⟨y.href.toArray⟩]] w fun e w' => e = .returned (.bool (hrefR x y)) ∧ Below w.heap.size w w' := by
 rw [hrefR_is]
 cases b1 : (x.href == y.href)
 all_goals
  go_enter Tryz.func134, Tryz.ntmps134
  go_wp2_with fail
  go_ret
  exact ⟨by simp [b1], ((Below.refl _ _).alloc (Nat.le_refl _) _).alloc (by simp) _⟩
set_option maxHeartbeats 1000000 in
theorem al_bit (x y : Cel) (Bb j : Nat) (hj : j ≤ 3) (w : World) (hb : w.heap[Bb]? = some (.cells #[.int .i64 (2 ^ j)] 3)) : Calls Tryz.prog 149 #[.agg #[.int .i32 x.r, .int .i64 x.bits, .string ⟨x.href.toArray⟩], .agg #[.int .i32 y.r, .int .i64 y.bits, .string ⟨y.href.toArray⟩], .pointer (some ⟨Bb, 0, none⟩)] w fun e w' => e = .returned (.bool (bitR j x y)) ∧ Below w.heap.size w w' := by
 rw [bitR_is hj]
 obtain ⟨z, hz⟩ : ∃ z : Int, 2 ^ j = z := ⟨_, rfl⟩
 rw [hz] at hb ⊢
 obtain ⟨q, f⟩ := blk hb
 have q0 := q 0
 have r1 : ∀ ob ob', ((w.alloc ob).alloc ob').cell? ⟨Bb, 0, none⟩ = some (.int .i64 z) := fun ob ob' => cell_on (cell_on q0 ob) ob'
 clear q f hb hz
 cases b1 : (bits .and .i64 x.bits z == bits .and .i64 y.bits z)
 all_goals
  go_enter Tryz.func149, Tryz.ntmps149
  go_wp2_with fail
  go_ret
  exact ⟨by simp [b1], ((Below.refl _ _).alloc (Nat.le_refl _) _).alloc (by simp) _⟩
end Go.Proofs.YtjpgffihafknlaaGreatDoor
