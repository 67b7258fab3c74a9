/- Parts of the proof. -/
import Derived.Test.YtjgeadoncanheaaGreatDoorRefTurnT
import Derived.Test.YtjgeadoncanheaaGreatDoorQryNamesT
import Derived.Test.YtjgeadoncanheaaGreatDoorRefOwnT
import Derived.Test.YtjgeadoncanheaaGreatDoorStyTellsT
import Derived.Test.YtjgeadoncanheaaGreatDoorDocEachT
set_option linter.unusedVariables false
set_option linter.unusedSimpArgs false
set_option maxHeartbeats 8000000
namespace Go.Proofs.YtjgeadoncanheaaGreatDoor
open Go.RowKit
open Go.Proofs.Qw
attribute [local go_sem] Oper.semAt_some
open _root_.Go.Lib renaming hid → zA
open _root_.And renaming intro → zB
open _root_.Nat renaming le_refl → zC
open _root_.Go.RowKit.Below renaming refl → zE, setCell → zF, alloc → zG, drew → zH
open _root_.Go renaming bodyPost_ret → zM
open _root_.Go.Proofs.Tryz renaming prog → zV
open _root_.Go.Proofs.YtjgeadoncanheaaGreatDoor renaming jG → zX, jK → qQ, jN → qR
open _root_.Go.Proofs.Qw renaming jX → qB
open _root_.Go.Proofs.Qw.SliceR renaming stable → qG, below → qH
open _root_.Go.Proofs.Qw.Keeps renaming refl → qM, alloc → qN, drew → qO, set → qP
theorem TurnP.own {n B : Nat} {l : Lin} {cv : Value} {w w' : World} {r : Option Lin} {e : Ending} {a : Option Addr} {m c : Nat} (q k : Int) (he : e = .returned (.bool r.isSome)) (hB : w'.heap[B]? = some (.cells #[.int .i64 q, .slice a m c, .int .i64 k, cv] 47))
  (hl : ∀ l', r = some l' → l'.quote = q ∧ l'.kind = k ∧ l'.lists.length = m ∧ jL true w' (fun b => n ≤ b) (.slice a m c) l'.lists ∧ l'.cells = l.cells) (ho : ∀ b, b ≠ B → w'.heap[b]? = w.heap[b]?) (hs : w'.heap.size = w.heap.size) (hb : ∀ m, m ≤ B → Below m w w') : TurnP n B l cv w r e w' :=
 ⟨he, ⟨q, k, a, m, c, hB, hl⟩, fun b hb _ _ => ho b hb, Nat.le_of_eq hs.symm, fun m _ hm => hb m hm⟩
set_option maxRecDepth 100000 in
theorem zFh (n B Bk : Nat) (l : Lin) (kind : Int) (la : Option Addr) (lc : Nat) (cv : Value) (W : World) (hBn : B < n) (hne : Bk ≠ B) (hk : W.heap[Bk]? = some (.cells #[.int .i64 kind] 3)) (h : jL true W (fun b => n ≤ b) (.slice la l.lists.length lc) l.lists) (hB : W.heap[B]? = some (.cells #[.int .i64 l.quote, .slice la l.lists.length lc, .int .i64 l.kind, cv] 47)) :
  Calls zV 230 #[.pointer (some ⟨B, 0, none⟩), .pointer (some ⟨Bk, 0, none⟩)] W (TurnP n B l cv W (yQ kind l)) := by
 obtain ⟨p0, f0⟩ := blk hB;obtain ⟨p1, f1⟩ := blk hk;have v1 : ¬ B = Bk := fun e => hne e.symm;have v2 : ¬ Bk = B := hne;have hlen := h.len;have HB := zA hB;have HI := zA h;have HR := zA (show yQ kind l = if l.lists ≠ [] ∨ l.kind = kind then none else some { l with kind := kind } from rfl);clear h hB hk
 by_cases e1 : l.lists = []
 ·have hl0 : (((l.lists.length : Nat) : Int) == 0) = true := by rw [e1]; rfl
  by_cases e2 : l.kind = kind
  ·have hk0 : (l.kind != kind) = false := by simp [e2]
   have HR : Hid (yQ kind l = none) := zA (HR.out.trans (if_pos (.inr e2)));clear e1 e2;go_enter Tryz.func230, Tryz.ntmps230;go_wp2_with fail;go_ret;rw [HR.out];exact TurnP.own (a := la) (m := l.lists.length) (c := lc) l.quote kind rfl (by simp [qR, jB, HB.out]) (fun _ e => by cases e) (fun b hb => by simp [qR, Ne.symm hb]) qT (fun m hm => (zE _ _).setCell hm _)
  ·have hk0 : (l.kind != kind) = true := by simp [e2]
   have HR : Hid (yQ kind l = some { l with kind := kind }) := zA (HR.out.trans (if_neg (fun h => h.elim (fun h => h e1) (fun h => e2 h))));clear e1 e2;go_enter Tryz.func230, Tryz.ntmps230;go_wp2_with fail;go_ret;rw [HR.out];refine TurnP.own (a := la) (m := l.lists.length) (c := lc) l.quote kind rfl (by simp [qR, jB, HB.out]) ?_ (fun b hb => by simp [qR, Ne.symm hb]) qT (fun m hm => (zE _ _).setCell hm _);intro l' hl';cases hl';exact ⟨rfl, rfl, rfl, qG (qB _) HI.out zCL (fun b h _ => h), rfl⟩
 ·have hl0 : (((l.lists.length : Nat) : Int) == 0) = false := by
   have : l.lists.length ≠ 0 := fun e2 => e1 (List.length_eq_zero_iff.1 e2);exact beq_false_of_ne qE
  have HR : Hid (yQ kind l = none) := zA (HR.out.trans (if_pos (.inl e1)));clear e1;go_enter Tryz.func230, Tryz.ntmps230;go_wp2_with fail;go_ret;rw [HR.out];exact TurnP.own (a := la) (m := l.lists.length) (c := lc) l.quote kind rfl (by simp [qR, jB, HB.out]) (fun _ e => by cases e) (fun b hb => by simp [qR, Ne.symm hb]) qT (fun m hm => (zE _ _).setCell hm _)
theorem zIa {w w' : World} {S : Nat → Prop} {v : Value} {xs : List Int} (h : jL true w S v xs) (hne : xs ≠ []) (hg : w.grownBy w' v.ownBlock) : ∀ b, b < w.heap.size → (¬ S b ∨ ∀ cs, w.heap[b]? ≠ some (.cells cs 3)) → w'.heap[b]? = w.heap[b]? := fun b hb hno => by
 obtain ⟨a, c, rfl, _, _, hx⟩ := h;rcases hx with ⟨rfl, _⟩ | ⟨b0, o0, rfl, hS, _, hf, _⟩
 ·exact absurd rfl hne
 ·obtain ⟨cs, h1, _⟩ := hf rfl
  refine hg.block b hb (fun e => ?_);have e : some b = some b0 := e;cases e;exact hno.elim (fun h => h hS) (fun h => h cs h1)
theorem zLR (w : World) (k : Int) {S : Nat → Prop} (hS : S w.heap.size) : jL true (w.alloc (.cells #[.int .i64 k] 3)) S (.slice (some ⟨w.heap.size, 0, none⟩) 1 1) [k] := by
 refine ⟨_, 1, rfl, by simp, by decide, .inr ⟨w.heap.size, 0, rfl, hS, by simp, fun _ => ⟨_, jF _ _ rfl, by simp⟩, fun i x hx => ?_⟩⟩
 match i, hx with
 | 0, hx =>
  cases hx
  exact ⟨_, rfl, rfl, fun j u hu => by
   rw [jS (jF _ _ rfl), Nat.zero_mul, Nat.zero_add]
   simpa [yH] using hu⟩
theorem zLJ (k : Int) : ∀ u ∈ [Value.int .i64 k], u.oneCell' = true := fun u hu => by simp at hu; subst hu; rfl
set_option maxRecDepth 100000 in
theorem zJq (n B : Nat) (l : Lin) (la : Option Addr) (lc : Nat) (cv : Value) (W : World) (hm : mayL l = true) (hBn : B < n) (hnW : n ≤ W.heap.size) (h : jL true W (fun b => n ≤ b) (.slice la l.lists.length lc) l.lists) (hB : W.heap[B]? = some (.cells #[.int .i64 l.quote, .slice la l.lists.length lc, .int .i64 l.kind, cv] 47)) :
  Calls zV 196 #[.pointer (some ⟨B, 0, none⟩)] W (TurnP n B l cv W (vZ l)) := by
 obtain ⟨hq0, hq6, hl6, _⟩ := zAl hm;have HC := zA (zBY B l.quote l.kind l.lists la lc cv W _ (SliceR.read (fun _ _ h => h) h) hB);have hlen := h.len
 by_cases hn : l.lists = []
 ·have HR : Hid (vZ l = if l.quote = 6 then none else some { l with quote := l.quote + 1 }) := zA (by unfold vZ; rw [if_neg (fun e => e hn)])
  have hla : xO l.lists = -1 := by rw [hn]; rfl
  rw [hla] at HC;have HB := zA hB;have HI := zA h;have w1 : IntKind.i64.wrap (l.quote + 1) = l.quote + 1 := IntWalk.i64_in _ qE;clear h hB hn hlen hla;go_enter Tryz.func196, Tryz.ntmps196;go_wp2_with (go_at_call 197; refine HC.out.mono ?_; rintro e w2 ⟨rfl, hb2, hh2⟩; have HW2 := zA (zB hb2 hh2); have HB2 : Hid (w2.heap[B]? = _) := zA (hh2 ▸ HB.out); clear hb2 hh2; obtain ⟨p0, f0⟩ := blk HB2.out);go_ret;rw [HR.out];have hI2 : jL true w2 (fun b => n ≤ b) (.slice la l.lists.length lc) l.lists := qH (qB _) HI.out HW2.out.1;refine ⟨?_, ⟨l.quote + 1, l.kind, la, l.lists.length, lc, by simp [qR, jB, HB2.out], ?_⟩, fun b hb _ _ => by simp [qR, Ne.symm hb, HW2.out.2], by simp [HW2.out.2], fun m _ hm => (HW2.out.1.mono (by have := hnW; omega)).setCell hm _⟩
  ·by_cases e : l.quote = 6
   ·rw [if_pos e]; simp [e]
   ·rw [if_neg e]; simp; omega
  ·intro l' hl'
   split at hl'
   ·cases hl'
   ·cases hl'
    exact ⟨rfl, rfl, rfl, qG (qB _) hI2 zCL (fun b h _ => h), rfl⟩
 ·have HR : Hid (vZ l = if l.lists.length = 6 then none else some { l with lists := l.lists ++ [xO l.lists] }) := zA (by unfold vZ; rw [if_pos hn])
  have hlf := zCn hm hn;obtain ⟨k, hk⟩ : ∃ k, xO l.lists = k := ⟨_, rfl⟩;rw [hk] at HC HR hlf;have HB := zA hB;have HI := zA h;have HN := zA hn;have HL : Hid (l.lists.length + [k].length ≤ 100000000) := zA jD;have hk0 : ¬ k < 0 := by omega
  clear h hB hn hlen hk;go_enter Tryz.func196, Tryz.ntmps196
  go_wp2_with (first
   | (go_at_call 197; refine HC.out.mono ?_; rintro e w2 ⟨rfl, hb2, hh2⟩; have HW2 := zA (zB hb2 hh2); have HB2 : Hid (w2.heap[B]? = _) := zA (hh2 ▸ HB.out); have hz2 : W.heap.size ≤ w2.heap.size := (by rw [hh2]; exact zC _); clear hb2 hh2; obtain ⟨p0, f0⟩ := blk HB2.out)
   | (at_builtin; refine uF _ rfl _ _ 45 45 rfl zBc zAJ n _ _ (xs := l.lists) (ys := [k]) (news := [.int .i64 k]) rfl rfl (qH (qB _) (qH (qB _) HI.out HW2.out.1) ((zE _ _).alloc (zC _) _)) jD (zAH zBc _ _ rfl (zLJ k) 1 rfl) (NewsR.one rfl rfl) HL.out ?_; intro v' w3 hR hB' hg _; obtain ⟨a3, c3, hv3⟩ := hR.slice; subst hv3; have HR3 := zA hR; have HB3 := zA hB'; have HG3 := zA (zIa (qH (qB _) (qH (qB _) HI.out HW2.out.1) ((zE _ _).alloc (zC _) _)) HN.out hg); have j3 := (HG3.out B jD (.inl qE)).trans (jI _ _ HB2.out); have HJ3 := zA j3; obtain ⟨p3, f3⟩ := blk j3; clear hR hB' hg j3))
  go_ret;rw [HR.out];have hr3 := HR3.out;rw [List.length_append, List.length_singleton] at hr3;refine ⟨?_, ⟨l.quote, l.kind, a3, l.lists.length + 1, c3, by simp [qR, jB, HJ3.out], ?_⟩, fun b hb hz hno => ?_, ?_, fun m hm1 hm2 => ?_⟩
  ·by_cases e : l.lists.length = 6
   ·rw [if_pos e]; simp [e]
   ·rw [if_neg e]; simp; omega
  ·intro l' hl'
   split at hl'
   ·cases hl'
   ·cases hl'
    exact ⟨rfl, rfl, by simp, qG (qB _) hr3 zCL (fun b h _ => h), rfl⟩
  ·rw [qR, if_neg (Ne.symm hb)]
   have e1 : (w2.alloc (.cells #[.int .i64 k] 3)).heap[b]? = W.heap[b]? := by
    rw [Array.getElem?_eq_getElem hz];exact jI _ _ (by rw [HW2.out.2]; exact Array.getElem?_eq_getElem hz)
   exact (HG3.out b jD (.inr (fun cs => by rw [e1]; exact hno cs))).trans e1
  ·have := HB3.out.size
   simp at this ⊢
   omega
  ·exact (((HW2.out.1.mono qE).alloc qE _).trans (HB3.out.mono hm1)).setCell hm2 _
set_option maxRecDepth 100000 in
theorem zGc (n B Bk : Nat) (l : Lin) (kind : Int) (la : Option Addr) (lc : Nat) (cv : Value) (W : World) (hm : mayL l = true) (hBn : B < n) (hne : Bk ≠ B) (hBk : Bk < n) (hnW : n ≤ W.heap.size) (hk : W.heap[Bk]? = some (.cells #[.int .i64 kind] 3)) (h : jL true W (fun b => n ≤ b) (.slice la l.lists.length lc) l.lists) (hB : W.heap[B]? = some (.cells #[.int .i64 l.quote, .slice la l.lists.length lc, .int .i64 l.kind, cv] 47)) :
  Calls zV 231 #[.pointer (some ⟨B, 0, none⟩), .pointer (some ⟨Bk, 0, none⟩)] W (TurnP n B l cv W (yN kind l)) := by
 obtain ⟨hq0, hq6, hl6, _⟩ := zAl hm;have HC := zA (zBY B l.quote l.kind l.lists la lc cv W _ (SliceR.read (fun _ _ h => h) h) hB);have v1 : ¬ B = Bk := fun e => hne e.symm;have v2 : ¬ Bk = B := hne
 by_cases hn : l.lists = []
 ·have HR : Hid (yN kind l = some { l with lists := [kind], kind := 0 }) := zA (by unfold yN; rw [if_pos hn])
  have hla : xO l.lists = -1 := by rw [hn]; rfl
  rw [hla] at HC;have HB := zA hB;have HK := zA hk;clear h hB hk hn hla;go_enter Tryz.func231, Tryz.ntmps231;go_wp2_with (go_at_call 197; refine HC.out.mono ?_; rintro e w2 ⟨rfl, hb2, hh2⟩; have HW2 := zA (zB hb2 hh2); have HB2 : Hid (w2.heap[B]? = _) := zA (hh2 ▸ HB.out); have hz2 : W.heap.size ≤ w2.heap.size := (by rw [hh2]; exact zC _); obtain ⟨p1, f1⟩ := blk (show w2.heap[Bk]? = _ from hh2 ▸ HK.out); have v3 : ¬ w2.heap.size = B := qE; have v4 : ¬ B = w2.heap.size := qE; clear hb2 hh2; obtain ⟨p0, f0⟩ := blk HB2.out; obtain ⟨t0, u0⟩ := blkT HB2.out);go_ret;rw [HR.out];have hs2 : w2.heap.size = W.heap.size := by rw [HW2.out.2]
  refine ⟨rfl, ⟨l.quote, 0, some ⟨w2.heap.size, 0, none⟩, 1, 1, by simp [qR, jB, jI _ (.cells #[.int .i64 kind] 3) HB2.out], ?_⟩, fun b hb hz hno => ?_, by simp; omega, fun m hm1 hm2 => ?_⟩
  ·intro l' hl'
   cases hl';exact ⟨rfl, rfl, rfl, qG (qB _) (zLR w2 kind (S := fun b => n ≤ b) (by show n ≤ w2.heap.size; omega)) zCL (fun b h _ => h), rfl⟩
  ·rw [qR, if_neg (Ne.symm hb), qR, if_neg (Ne.symm hb), Array.getElem?_eq_getElem hz]
   exact jI _ _ (by rw [HW2.out.2]; exact Array.getElem?_eq_getElem hz)
  ·exact (((HW2.out.1.mono qE).alloc qE _).setCell hm2 _).setCell hm2 _
 ·obtain ⟨i, hil⟩ : ∃ i, l.lists.length = i + 1 := ⟨l.lists.length - 1, by have := List.length_pos_iff.2 hn; omega⟩
  obtain ⟨x, hx0, _⟩ := jJ l.lists i qE
  have hlx : xO l.lists = x := by
   unfold xO;rw [List.getLastD_eq_getLast?, List.getLast?_eq_getElem?, hil, Nat.add_sub_cancel, hx0]
   rfl
  have hlf := zCn hm hn
  have hset : l.lists.dropLast ++ [kind] = l.lists.set i kind := by
   apply List.ext_getElem?
   intro j
   by_cases hj : j = i
   ·subst hj
    rw [List.getElem?_set_self qE, List.getElem?_append_right jD];simp [hil]
   ·rw [List.getElem?_set_ne (Ne.symm hj)]
    by_cases hj2 : j < i
    ·rw [List.getElem?_append_left jD, List.getElem?_dropLast, if_pos qE]
    ·rw [List.getElem?_eq_none jD, List.getElem?_eq_none qE]
  have HR : Hid (yN kind l = if x = kind then none else some { l with lists := l.lists.set i kind }) := zA (by unfold yN; rw [if_neg hn, hlx, hset]);rw [hlx] at HC hlf;obtain ⟨b0, o0, cs0, hla, hS0, hc0, hz0⟩ := SliceR.cellAt h (i := i) qE;subst hla;have hb0 : n ≤ b0 := hS0;obtain ⟨a9, c9, he9, _, _, hx9⟩ := zAm (SliceR.read (fun _ _ h => h) h);cases he9;obtain ⟨b9, o9, he9, hz9, hc9⟩ := hx9 i x hx0;cases he9;have HC9 := zA (zB hz9 hc9);clear hx9 hz9 hc9;have HI := zA h;have HB := zA hB;have HK := zA hk;have HX := zA hx0;have HIL := zA hil;have HC0 := zA hc0;have hlen := h.len;unfold maxLen at hlen;have q0 : ¬ x < 0 := by omega
  have n0 : (0 : Int) ≤ (i : Int) := Int.natCast_nonneg _;have n1 : (i : Int) < ((i + 1 : Nat) : Int) := by omega
  have e1 : IntKind.i64.wrap (((i + 1 : Nat) : Int) - 1) = (i : Int) := by rw [show (((i + 1 : Nat) : Int) - 1) = (i : Int) by omega]; exact IntWalk.i64_in _ qE
  have e2 : wrap64 (i : Int) = (i : Int) := IntWalk.wrap64_in _ qE;have v3 : ¬ b0 = B := by omega
  have v4 : ¬ b0 = Bk := by omega
  have v5 : ¬ B = b0 := by omega
  have v6 : ¬ Bk = b0 := by omega
  rw [hil] at HB;clear h hB hk hx0 hlx hset hn hc0 hz0 hS0 hil hlen;go_enter Tryz.func231, Tryz.ntmps231;go_wp2_with (go_at_call 197; refine HC.out.mono ?_; rintro e w2 ⟨rfl, hb2, hh2⟩; have HW2 := zA (zB hb2 hh2); have HB2 : Hid (w2.heap[B]? = _) := zA (hh2 ▸ HB.out); obtain ⟨p1, f1⟩ := blk (show w2.heap[Bk]? = _ from hh2 ▸ HK.out); have f2 := (blk (show w2.heap[b0]? = _ from hh2 ▸ HC0.out)).2; have c9 := (hb2.cell (p := ⟨b0, o0 + i, none⟩) HC9.out.1).trans HC9.out.2; clear hb2 hh2; obtain ⟨p0, f0⟩ := blk HB2.out);go_region;go_wp2_with fail;go_ret;rw [HR.out];have hI2 : jL true w2 (fun b => n ≤ b) (.slice (some ⟨b0, o0, none⟩) l.lists.length lc) l.lists := qH (qB _) HI.out HW2.out.1;have hw := SliceR.set1 zAJ.tag hI2 HX.out (j := 0) (x' := kind) jA (.int .i64 kind) (by rintro vs _ rfl; rfl);rw [Nat.mul_one, Nat.add_zero] at hw;have hlen2 : (l.lists.set i kind).length = l.lists.length := List.length_set;refine ⟨?_, ⟨l.quote, l.kind, some ⟨b0, o0, none⟩, l.lists.length, lc, ?_, ?_⟩, fun b hb hz hno => ?_, by simp [HW2.out.2], fun m hm1 hm2 => ?_⟩
  ·by_cases e : x = kind
   ·rw [if_pos e]; simp [e]
   ·rw [if_neg e]; simp [e]
  ·show (w2.setCell ⟨b0, o0 + i, none⟩ (.int .i64 kind)).heap[B]? = _
   rw [qR, if_neg v3, HIL.out];exact HB2.out
  ·intro l' hl'
   split at hl'
   ·cases hl'
   ·cases hl'
    exact ⟨rfl, rfl, hlen2, qH (qB _) hw (zE _ _).drew, rfl⟩
  ·show (w2.setCell ⟨b0, o0 + i, none⟩ (.int .i64 kind)).heap[b]? = _
   rw [qR, if_neg (fun e : b0 = b => hno cs0 (e ▸ HC0.out)), HW2.out.2]
  ·exact ((HW2.out.1.mono qE).setCell (by show m ≤ b0; omega) _).drew
theorem zGd (w : World) (x1 x2 x3 x4 y1 y2 y3 y4 k : Value) : ∃ W1, ((w.alloc (.cells #[x1, x2, x3, x4] 47)).alloc (.cells #[k] 3)).alloc (.cells #[y1, y2, y3, y4] 47) = W1 ∧ Below w.heap.size w W1 ∧ w.heap.size + 3 = W1.heap.size ∧
  W1.heap[w.heap.size]? = some (.cells #[x1, x2, x3, x4] 47) ∧ W1.heap[w.heap.size + 1]? = some (.cells #[k] 3) ∧ W1.heap[w.heap.size + 2]? = some (.cells #[y1, y2, y3, y4] 47) :=
 ⟨_, rfl, (((zE _ _).alloc (zC _) _).alloc qT _).alloc jD _, by simp, jI _ _ (jI _ _ (jF _ _ rfl)), jI _ _ (jF _ _ qT), jF _ _ qT⟩
set_option maxRecDepth 100000 in
theorem zHz (kind : Int) (l : Lin) (la ca : Option Addr) (lc cc : Nat) (w w0 : World) (S : Nat → Prop) (hk : 0 ≤ kind ∧ kind ≤ 3) (hL : jL false w0 S (.slice la l.lists.length lc) l.lists) (hC : jE false w0 S (.slice ca l.cells.length cc) l.cells) (h0 : Below w0.heap.size w0 w)
  (he : EnvT w) (hs : l.lists.length ≤ 1000000 ∧ l.cells.length ≤ 1000000) (hh : ∀ c ∈ l.cells, c.href.length ≤ 1000000) (hm : mayL l = true) :
  Calls zV 195 #[linV l (.slice la l.lists.length lc) (.slice ca l.cells.length cc), .int .i64 kind] w (vO w (yQ kind l)) := by
 obtain ⟨W1, hW1, hB, hz, hA1, hA0, hA2⟩ := zGd w (.int .i64 l.quote) (.slice la l.lists.length lc) (.int .i64 l.kind) (.slice ca l.cells.length cc) (.int .i64 0) (.slice none 0 0) (.int .i64 0) (.slice none 0 0) (.int .i64 kind)
 have HT := zA (zDs 230 #[.pointer (some ⟨w.heap.size + 1, 0, none⟩)] (yQ kind l) (enters_of Tryz.func230 qC rfl) l la ca lc cc W1 w0 S hL hC (jH h0 hB) (he.below hB) hs hh hm (fun n B la lc cv W hW hB1 hBn hnW hi hBb => by
  have hk1 := zX hW hA0;have hne : w.heap.size + 1 ≠ B := by omega
  first
   | exact zFh n B (w.heap.size + 1) l kind la lc cv W hBn hne hk1 hi hBb
   | exact zGc n B (w.heap.size + 1) l kind la lc cv W hm hBn hne qE hnW hk1 hi hBb))
 have hs1 := hB.size;have HB0 : Hid (∀ W, Below W1.heap.size W1 W → W.heap[w.heap.size]? = some (.cells #[.int .i64 l.quote, .slice la l.lists.length lc, .int .i64 l.kind, .slice ca l.cells.length cc] 47) ∧ W.heap[w.heap.size + 1]? = some (.cells #[.int .i64 kind] 3) ∧ W.heap[w.heap.size + 2]? = some (.cells #[.int .i64 0, .slice none 0 0, .int .i64 0, .slice none 0 0] 47)) := zA fun W hW => ⟨zX hW hA1, zX hW hA0, zX hW hA2⟩;have H1 := zA hB;obtain ⟨p0, f0⟩ := blk hA0;obtain ⟨p1, f1⟩ := blk hA1;obtain ⟨p2, f2⟩ := blk hA2;obtain ⟨r, hr⟩ : ∃ r, yQ kind l = r := ⟨_, rfl⟩;rw [hr] at HT ⊢;clear hL hC hs hB h0 hr hm he;unfold linV at HT ⊢;obtain ⟨k0, k3⟩ := hk;cases r with
 | none =>
  go_enter Tryz.func195, Tryz.ntmps195;go_wp2_with (go_at_call 169; refine HT.out.mono ?_; rintro e w2 ⟨_, he2, hb2⟩; obtain rfl := he2 rfl; obtain ⟨hA3, hA5, hA4⟩ := HB0.out _ hb2; obtain ⟨q0, g0⟩ := blk hA3; obtain ⟨q1, g1⟩ := blk hA4; obtain ⟨q2, g2⟩ := blk hA5);refine zM (xZ rfl _ _ (w.heap.size + 2) (.int .i64 0) (.slice none 0 0) (.int .i64 0) (.slice none 0 0) rfl yU) rfl ?_;refine ⟨fun l' h => xE, fun _ => rfl, ?_⟩;have := H1.out.trans (hb2.mono hs1)
  ((with_reducible repeat' first | exact zE _ _ | assumption | refine zG ?_ ?_ _ | refine zH ?_ | refine qQ ?_ | refine zF ?_ ?_ _) <;> go_size)
 | some l' =>
  go_enter Tryz.func195, Tryz.ntmps195;go_wp2_with (go_at_call 169; refine HT.out.mono ?_; rintro e w2 ⟨he2, _, hb2⟩; obtain ⟨a', b', rfl, ha', hb'⟩ := he2 _ rfl; obtain ⟨a1, c1, rfl⟩ := ha'.slice; obtain ⟨a2, c2, rfl⟩ := hb'.slice; obtain ⟨hA3, hA5, hA4⟩ := HB0.out _ hb2; obtain ⟨q0, g0⟩ := blk hA3; obtain ⟨q1, g1⟩ := blk hA4; obtain ⟨q2, g2⟩ := blk hA5);refine zM (xZ rfl _ _ (w.heap.size + 2) (.int .i64 l'.quote) (.slice a1 l'.lists.length c1) (.int .i64 l'.kind) (.slice a2 l'.cells.length c2) rfl yU) rfl ?_;refine ⟨fun l'' h => ?_, fun h => xE, ?_⟩
  ·cases h
   exact ⟨_, _, rfl, (qG (qB _) ha' jP (fun b h _ => jM)), (qG (qB _) hb' jP (fun b h _ => jM))⟩
  ·have := H1.out.trans (hb2.mono hs1)
   ((with_reducible repeat' first | exact zE _ _ | assumption | refine zG ?_ ?_ _ | refine zH ?_ | refine qQ ?_ | refine zF ?_ ?_ _) <;> go_size)
set_option maxRecDepth 100000 in
theorem zIA (kind : Int) (l : Lin) (la ca : Option Addr) (lc cc : Nat) (w w0 : World) (S : Nat → Prop) (hk : kind = 0 ∨ kind = 1) (hL : jL false w0 S (.slice la l.lists.length lc) l.lists) (hC : jE false w0 S (.slice ca l.cells.length cc) l.cells) (h0 : Below w0.heap.size w0 w)
  (he : EnvT w) (hs : l.lists.length ≤ 1000000 ∧ l.cells.length ≤ 1000000) (hh : ∀ c ∈ l.cells, c.href.length ≤ 1000000) (hm : mayL l = true) :
  Calls zV 199 #[linV l (.slice la l.lists.length lc) (.slice ca l.cells.length cc), .int .i64 kind] w (vO w (yN kind l)) := by
 obtain ⟨W1, hW1, hB, hz, hA1, hA0, hA2⟩ := zGd w (.int .i64 l.quote) (.slice la l.lists.length lc) (.int .i64 l.kind) (.slice ca l.cells.length cc) (.int .i64 0) (.slice none 0 0) (.int .i64 0) (.slice none 0 0) (.int .i64 kind)
 have HT := zA (zDs 231 #[.pointer (some ⟨w.heap.size + 1, 0, none⟩)] (yN kind l) (enters_of Tryz.func231 qC rfl) l la ca lc cc W1 w0 S hL hC (jH h0 hB) (he.below hB) hs hh hm (fun n B la lc cv W hW hB1 hBn hnW hi hBb => by
  have hk1 := zX hW hA0;have hne : w.heap.size + 1 ≠ B := by omega
  first
   | exact zFh n B (w.heap.size + 1) l kind la lc cv W hBn hne hk1 hi hBb
   | exact zGc n B (w.heap.size + 1) l kind la lc cv W hm hBn hne qE hnW hk1 hi hBb))
 have hs1 := hB.size;have HB0 : Hid (∀ W, Below W1.heap.size W1 W → W.heap[w.heap.size]? = some (.cells #[.int .i64 l.quote, .slice la l.lists.length lc, .int .i64 l.kind, .slice ca l.cells.length cc] 47) ∧ W.heap[w.heap.size + 1]? = some (.cells #[.int .i64 kind] 3) ∧ W.heap[w.heap.size + 2]? = some (.cells #[.int .i64 0, .slice none 0 0, .int .i64 0, .slice none 0 0] 47)) := zA fun W hW => ⟨zX hW hA1, zX hW hA0, zX hW hA2⟩;have H1 := zA hB;obtain ⟨p0, f0⟩ := blk hA0;obtain ⟨p1, f1⟩ := blk hA1;obtain ⟨p2, f2⟩ := blk hA2;obtain ⟨r, hr⟩ : ∃ r, yN kind l = r := ⟨_, rfl⟩;rw [hr] at HT ⊢;clear hL hC hs hB h0 hr hm he;unfold linV at HT ⊢;have hk2 : (kind != 0) = false ∨ ((kind != 0) = true ∧ (kind != 1) = false) := by rcases hk with rfl | rfl <;> simp
 clear hk;rcases hk2 with k0 | ⟨k0, k1⟩
 ·cases r with
   | none =>
    go_enter Tryz.func199, Tryz.ntmps199;go_wp2_with (go_at_call 169; refine HT.out.mono ?_; rintro e w2 ⟨_, he2, hb2⟩; obtain rfl := he2 rfl; obtain ⟨hA3, hA5, hA4⟩ := HB0.out _ hb2; obtain ⟨q0, g0⟩ := blk hA3; obtain ⟨q1, g1⟩ := blk hA4; obtain ⟨q2, g2⟩ := blk hA5);refine zM (xZ rfl _ _ (w.heap.size + 2) (.int .i64 0) (.slice none 0 0) (.int .i64 0) (.slice none 0 0) rfl yU) rfl ?_;refine ⟨fun l' h => xE, fun _ => rfl, ?_⟩;have := H1.out.trans (hb2.mono hs1)
    ((with_reducible repeat' first | exact zE _ _ | assumption | refine zG ?_ ?_ _ | refine zH ?_ | refine qQ ?_ | refine zF ?_ ?_ _) <;> go_size)
   | some l' =>
    go_enter Tryz.func199, Tryz.ntmps199;go_wp2_with (go_at_call 169; refine HT.out.mono ?_; rintro e w2 ⟨he2, _, hb2⟩; obtain ⟨a', b', rfl, ha', hb'⟩ := he2 _ rfl; obtain ⟨a1, c1, rfl⟩ := ha'.slice; obtain ⟨a2, c2, rfl⟩ := hb'.slice; obtain ⟨hA3, hA5, hA4⟩ := HB0.out _ hb2; obtain ⟨q0, g0⟩ := blk hA3; obtain ⟨q1, g1⟩ := blk hA4; obtain ⟨q2, g2⟩ := blk hA5);refine zM (xZ rfl _ _ (w.heap.size + 2) (.int .i64 l'.quote) (.slice a1 l'.lists.length c1) (.int .i64 l'.kind) (.slice a2 l'.cells.length c2) rfl yU) rfl ?_;refine ⟨fun l'' h => ?_, fun h => xE, ?_⟩
    ·cases h
     exact ⟨_, _, rfl, (qG (qB _) ha' jP (fun b h _ => jM)), (qG (qB _) hb' jP (fun b h _ => jM))⟩
    ·have := H1.out.trans (hb2.mono hs1)
     ((with_reducible repeat' first | exact zE _ _ | assumption | refine zG ?_ ?_ _ | refine zH ?_ | refine qQ ?_ | refine zF ?_ ?_ _) <;> go_size)
 ·cases r with
   | none =>
    go_enter Tryz.func199, Tryz.ntmps199;go_wp2_with (go_at_call 169; refine HT.out.mono ?_; rintro e w2 ⟨_, he2, hb2⟩; obtain rfl := he2 rfl; obtain ⟨hA3, hA5, hA4⟩ := HB0.out _ hb2; obtain ⟨q0, g0⟩ := blk hA3; obtain ⟨q1, g1⟩ := blk hA4; obtain ⟨q2, g2⟩ := blk hA5);refine zM (xZ rfl _ _ (w.heap.size + 2) (.int .i64 0) (.slice none 0 0) (.int .i64 0) (.slice none 0 0) rfl yU) rfl ?_;refine ⟨fun l' h => xE, fun _ => rfl, ?_⟩;have := H1.out.trans (hb2.mono hs1)
    ((with_reducible repeat' first | exact zE _ _ | assumption | refine zG ?_ ?_ _ | refine zH ?_ | refine qQ ?_ | refine zF ?_ ?_ _) <;> go_size)
   | some l' =>
    go_enter Tryz.func199, Tryz.ntmps199;go_wp2_with (go_at_call 169; refine HT.out.mono ?_; rintro e w2 ⟨he2, _, hb2⟩; obtain ⟨a', b', rfl, ha', hb'⟩ := he2 _ rfl; obtain ⟨a1, c1, rfl⟩ := ha'.slice; obtain ⟨a2, c2, rfl⟩ := hb'.slice; obtain ⟨hA3, hA5, hA4⟩ := HB0.out _ hb2; obtain ⟨q0, g0⟩ := blk hA3; obtain ⟨q1, g1⟩ := blk hA4; obtain ⟨q2, g2⟩ := blk hA5);refine zM (xZ rfl _ _ (w.heap.size + 2) (.int .i64 l'.quote) (.slice a1 l'.lists.length c1) (.int .i64 l'.kind) (.slice a2 l'.cells.length c2) rfl yU) rfl ?_;refine ⟨fun l'' h => ?_, fun h => xE, ?_⟩
    ·cases h
     exact ⟨_, _, rfl, (qG (qB _) ha' jP (fun b h _ => jM)), (qG (qB _) hb' jP (fun b h _ => jM))⟩
    ·have := H1.out.trans (hb2.mono hs1)
     ((with_reducible repeat' first | exact zE _ _ | assumption | refine zG ?_ ?_ _ | refine zH ?_ | refine qQ ?_ | refine zF ?_ ?_ _) <;> go_size)
theorem zHy (l : Lin) (la ca : Option Addr) (lc cc : Nat) (w w0 : World) (S : Nat → Prop) (hL : jL false w0 S (.slice la l.lists.length lc) l.lists) (hC : jE false w0 S (.slice ca l.cells.length cc) l.cells) (h0 : Below w0.heap.size w0 w)
  (he : EnvT w) (hs : l.lists.length ≤ 1000000 ∧ l.cells.length ≤ 1000000) (hh : ∀ c ∈ l.cells, c.href.length ≤ 1000000) (hm : mayL l = true) :
  Calls zV 135 #[linV l (.slice la l.lists.length lc) (.slice ca l.cells.length cc)] w (vO w (vZ l)) := by
 obtain ⟨W1, hW1, hB, hz, hA1, hA2⟩ := uX w (.int .i64 l.quote) (.slice la l.lists.length lc) (.int .i64 l.kind) (.slice ca l.cells.length cc) (.int .i64 0) (.slice none 0 0) (.int .i64 0) (.slice none 0 0);have HT := zA (zDs 196 #[] (vZ l) (enters_of Tryz.func196 qC rfl) l la ca lc cc W1 w0 S hL hC (jH h0 hB) (he.below hB) hs hh hm (fun n B la lc cv W hW hB1 hBn hnW hi hBb => zJq n B l la lc cv W hm hBn hnW hi hBb));have hs1 := hB.size;have HB0 : Hid (∀ W, Below W1.heap.size W1 W → W.heap[w.heap.size]? = some (.cells #[.int .i64 l.quote, .slice la l.lists.length lc, .int .i64 l.kind, .slice ca l.cells.length cc] 47) ∧ W.heap[w.heap.size + 1]? = some (.cells #[.int .i64 0, .slice none 0 0, .int .i64 0, .slice none 0 0] 47)) := zA fun W hW => ⟨zX hW hA1, zX hW hA2⟩;have H1 := zA hB;obtain ⟨p1, f1⟩ := blk hA1;obtain ⟨p2, f2⟩ := blk hA2;obtain ⟨r, hr⟩ : ∃ r, vZ l = r := ⟨_, rfl⟩;rw [hr] at HT ⊢;clear hL hC hs hB h0 hr hm he;unfold linV at HT ⊢;cases r with
 | none =>
  go_enter Tryz.func135, Tryz.ntmps135;go_wp2_with (go_at_call 169; refine HT.out.mono ?_; rintro e w2 ⟨_, he2, hb2⟩; obtain rfl := he2 rfl; obtain ⟨hA3, hA4⟩ := HB0.out _ hb2; obtain ⟨q0, g0⟩ := blk hA3; obtain ⟨q1, g1⟩ := blk hA4);refine zM (xZ rfl _ _ (w.heap.size + 1) (.int .i64 0) (.slice none 0 0) (.int .i64 0) (.slice none 0 0) rfl yU) rfl ?_;refine ⟨fun l' h => xE, fun _ => rfl, ?_⟩;have := H1.out.trans (hb2.mono hs1)
  ((with_reducible repeat' first | exact zE _ _ | assumption | refine zG ?_ ?_ _ | refine zH ?_ | refine qQ ?_ | refine zF ?_ ?_ _) <;> go_size)
 | some l' =>
  go_enter Tryz.func135, Tryz.ntmps135;go_wp2_with (go_at_call 169; refine HT.out.mono ?_; rintro e w2 ⟨he2, _, hb2⟩; obtain ⟨a', b', rfl, ha', hb'⟩ := he2 _ rfl; obtain ⟨a1, c1, rfl⟩ := ha'.slice; obtain ⟨a2, c2, rfl⟩ := hb'.slice; obtain ⟨hA3, hA4⟩ := HB0.out _ hb2; obtain ⟨q0, g0⟩ := blk hA3; obtain ⟨q1, g1⟩ := blk hA4);refine zM (xZ rfl _ _ (w.heap.size + 1) (.int .i64 l'.quote) (.slice a1 l'.lists.length c1) (.int .i64 l'.kind) (.slice a2 l'.cells.length c2) rfl yU) rfl ?_;refine ⟨fun l'' h => ?_, fun h => xE, ?_⟩
  ·cases h
   exact ⟨_, _, rfl, (qG (qB _) ha' jP (fun b h _ => jM)), (qG (qB _) hb' jP (fun b h _ => jM))⟩
  ·have := H1.out.trans (hb2.mono hs1)
   ((with_reducible repeat' first | exact zE _ _ | assumption | refine zG ?_ ?_ _ | refine zH ?_ | refine qQ ?_ | refine zF ?_ ?_ _) <;> go_size)
end Go.Proofs.YtjgeadoncanheaaGreatDoor
namespace Go.Proofs.YtjgeadoncanheaaGreatDoor
open Go.RowKit
open Go.Proofs.Qw
open _root_.List renaming getElem?_eq_some_iff → zK
theorem zDP {w : World} {S : Nat → Prop} {b o c : Nat} {O : Doc} (h : DocR true w S (.slice (some ⟨b, o, none⟩) O.length c) O) {i : Nat} {l : Lin} (hi : O[i]? = some l) (l' : Lin) (x1 x2 : Value) (h1 : jL true w S x1 l'.lists) (h2 : jE true w S x2 l'.cells) :
  ∃ W, (((w.setCell ⟨b, o + i * 4, none⟩ (.int .i64 l'.quote)).setCell ⟨b, o + i * 4 + 1, none⟩ x1).setCell ⟨b, o + i * 4 + 2, none⟩ (.int .i64 l'.kind)).setCell ⟨b, o + i * 4 + 3, none⟩ x2 = W ∧
   DocR true W S (.slice (some ⟨b, o, none⟩) O.length c) (O.set i l') ∧ (∀ d, d ≠ b → W.heap[d]? = w.heap[d]?) ∧ W.heap.size = w.heap.size ∧ (∀ m, m ≤ b → Below m w W) := by
 have hil := (zK.1 hi).1
 have hw := SliceR.write (R := uL true) (k := 4) kH.tag jA h (p := i) (ys := [l']) (news := [.int .i64 l'.quote, x1, .int .i64 l'.kind, x2]) jD
  (NewsR.one rfl ⟨_, _, rfl, h1, h2⟩) rfl
 refine ⟨_, rfl, ?_, fun d hd => by simp [jN, Ne.symm hd], by simp, fun m hm => ((((Below.refl _ _).setCell hm _).setCell hm _).setCell hm _).setCell hm _⟩;have e : O.take i ++ [l'] ++ O.drop (i + 1) = O.set i l' := (zMK hi l').symm;simp only [List.length_singleton] at hw;rw [e] at hw;exact hw
theorem zCu {w : World} {S : Nat → Prop} {a : Option Addr} {n c : Nat} {O : Doc} (h : DocR true w S (.slice a n c) O) {i : Nat} {l : Lin} (hi : O[i]? = some l) :
  ∃ b o la lc ca cc, a = some ⟨b, o, none⟩ ∧ S b ∧ b < w.heap.size ∧ LinAt w S b (o + i * 4) l la lc ca cc ∧ (∀ k, w.frozen? ⟨b, k, none⟩ = false) ∧ ∃ cs, w.heap[b]? = some (.cells cs 47) := by
 have hil := (zK.1 hi).1;obtain ⟨b, o, cs, rfl, hb, hcs, hle⟩ := SliceR.cellAt h hil;obtain ⟨a', c', e, _, _, hx⟩ := kJ h.read;cases e;obtain ⟨b', o', la, lc, ca, cc, e, hA⟩ := hx i l hi;cases e;exact ⟨b, o, la, lc, ca, cc, rfl, hb, hA.lt, hA, fun k => yJ hcs, cs, hcs⟩
end Go.Proofs.YtjgeadoncanheaaGreatDoor
namespace Go.Proofs.YtjgeadoncanheaaGreatDoor
open Go.RowKit
open Go.Proofs.Qw
attribute [local go_sem] Oper.semAt_some
open _root_.Go.Lib renaming hid → zA
open _root_.And renaming intro → zB
open _root_.Nat renaming le_refl → zC
open _root_.Go.RowKit.Below renaming refl → zE, setCell → zF, alloc → zG, drew → zH
open _root_.Go renaming bodyPost_ret → zM
open _root_.Int renaming natCast_nonneg → zR
open _root_.Go.Proofs.Tryz renaming prog → zV
open _root_.Go.Proofs.YtjgeadoncanheaaGreatDoor renaming jG → zX, jI → zY, jF → qF, jK → qQ, jN → qR
open _root_.Go.Proofs.Qw renaming jY → zZ, jX → qB
open _root_.Go.Proofs.Qw.SliceR renaming stable → qG
open _root_.Go.Proofs.Qw.Keeps renaming refl → qM, alloc → qN, drew → qO, set → qP
def anyX {w0 : World} {S : Nat → Prop} {s : St} (f : Lin → Option Lin) (pre : List (SelX w0 S s)) : Bool := pre.any fun x => (f x.l).isSome
def EB {w0 : World} {S : Nat → Prop} {s : St} (f : Lin → Option Lin) (v fv : Value) (w : World) (Bo Bm Z : Nat) (pre : List (SelX w0 S s)) (W : World) : Prop :=
 W.heap[Bo]? = some (.cells #[v, .int .i64 s.anc.line, .int .i64 s.anc.col, .int .i64 s.foc.line, .int .i64 s.foc.col, .int .i64 0, .int .i64 0] 26) ∧ W.heap[Bm]? = some (.cells #[.int .i64 (if anyX f pre = true then 0 else 7)] 48) ∧
  W.heap[w.heap.size + 1]? = some (.cells #[fv] 124) ∧ W.heap[w.heap.size + 2]? = some (.cells #[.slice none 0 0, .int .i64 0, .int .i64 0, .int .i64 0, .int .i64 0, .int .i64 0, .int .i64 0] 26) ∧ DocR true W (fun b => w.heap.size + 3 ≤ b ∧ b ≠ Bo ∧ b ≠ Bm) v (vU f s (pre.map (·.i))) ∧ Below w.heap.size w W ∧ Z ≤ W.heap.size
theorem zMV {w0 : World} {S : Nat → Prop} {s : St} {f : Lin → Option Lin} {v fv : Value} {w : World} {Bo Bm Z B : Nat} (hB : w.heap.size ≤ B) : OwnFrom B (EB (w0 := w0) (S := S) (s := s) f v fv w Bo Bm Z) :=
 OwnFrom.and (yA _ _ _ _) (OwnFrom.and (fun pre X _ _ hs hg hr => yA (β := Unit) B _ _ _ () X _ _ hs hg hr) (OwnFrom.and (yA _ _ _ _) (OwnFrom.and (yA _ _ _ _) (OwnFrom.and (zAt _ _ _ _) (OwnFrom.and (ownFrom_below (zC _) hB) (uV _ _))))))
theorem zJx (w : World) (v fv : Value) (s : St) : ∃ W1, ((w.alloc (.cells #[v, .int .i64 s.anc.line, .int .i64 s.anc.col, .int .i64 s.foc.line, .int .i64 s.foc.col, .int .i64 s.on, .int .i64 s.off] 26)).alloc (.cells #[fv] 124)).alloc (.cells #[.slice none 0 0, .int .i64 0, .int .i64 0, .int .i64 0, .int .i64 0, .int .i64 0, .int .i64 0] 26) = W1 ∧ Below w.heap.size w W1 ∧ w.heap.size + 3 = W1.heap.size ∧
  W1.heap[w.heap.size]? = some (.cells #[v, .int .i64 s.anc.line, .int .i64 s.anc.col, .int .i64 s.foc.line, .int .i64 s.foc.col, .int .i64 s.on, .int .i64 s.off] 26) ∧ W1.heap[w.heap.size + 1]? = some (.cells #[fv] 124) ∧ W1.heap[w.heap.size + 2]? = some (.cells #[.slice none 0 0, .int .i64 0, .int .i64 0, .int .i64 0, .int .i64 0, .int .i64 0, .int .i64 0] 26) :=
 ⟨_, rfl, (((zE _ _).alloc (zC _) _).alloc qT _).alloc jD _, by simp, zY _ _ (zY _ _ (qF _ _ rfl)), zY _ _ (qF _ _ qT), qF _ _ qT⟩
theorem zDD (w : World) : w.drew.heap = w.heap := rfl
theorem zDU (p q : Nat) (a b : Value) (t : Array Value) : (#[p, q].zip #[a, b]).foldl (fun t x => match x with | (p, v) => t.setIfInBounds p v) t = (t.setIfInBounds p a).setIfInBounds q b := by simp
theorem zMa {w : World} {B : Nat} {cs : Array Value} {t : TypeId} (h : w.heap[B]? = some (.cells cs t)) : ∀ X Y k, ((w.alloc X).alloc Y).cell? ⟨B, k, none⟩ = cs[k]? := fun X Y _ => jS (zY _ Y (zY _ X h))
set_option maxRecDepth 200000 in
theorem zBv (v : Value) (s : St) (g : Nat) (lb : Array Value) (f : Lin → Option Lin) (w : World) (S : Nat → Prop) (h : jC w S v s.lines) (he : EnvT w) (hs : Small s.lines) (hf : Fits s.lines)
  (eg : ∀ args w, (callFunc g args).run zV w = .ok (.enter g args) w)
  (hg : ∀ (W : World) (l : Lin) (la ca : Option Addr) (lc cc : Nat), Below w.heap.size w W → l ∈ s.lines → mayL l = true → jL false w S (.slice la l.lists.length lc) l.lists → jE false w S (.slice ca l.cells.length cc) l.cells → Calls zV g (#[linV l (.slice la l.lists.length lc) (.slice ca l.cells.length cc)] ++ lb) W (vO W (f l))) :
  Calls zV 134 #[stV v s, .func (.func g) #[] lb] w (StSaid (kR f s) w) := by
 obtain ⟨W1, hW1, hB, hz, k0, k1, k2⟩ := zJx w v (.func (.func g) #[] lb) s;have HB : Hid (∀ W, Below W1.heap.size W1 W → W.heap[w.heap.size]? = some (.cells #[v, .int .i64 s.anc.line, .int .i64 s.anc.col, .int .i64 s.foc.line, .int .i64 s.foc.col, .int .i64 s.on, .int .i64 s.off] 26) ∧ W.heap[w.heap.size + 1]? = some (.cells #[.func (.func g) #[] lb] 124) ∧ W.heap[w.heap.size + 2]? = some (.cells #[.slice none 0 0, .int .i64 0, .int .i64 0, .int .i64 0, .int .i64 0, .int .i64 0, .int .i64 0] 26)) := zA fun W hW => ⟨zX hW k0, zX hW k1, zX hW k2⟩;have hs1 := hB.size;have H1 := zA hB;have hw0 : Below W1.heap.size W1 W1 := zE _ _;have HV : Hid (∀ W, Below W1.heap.size W1 W → jC W S v s.lines) := zA fun W hW => h.below (zZ _) (hB.trans (hW.mono hs1));have HE : Hid (∀ W, Below W1.heap.size W1 W → EnvT W) := zA fun W hW => (he.below hB).below hW;have HM : Hid (∀ W, Below W1.heap.size W1 W → Calls zV 27 #[stV v s] W fun e w' => e = .returned (.bool (mayS s)) ∧ Below W.heap.size W w') := zA fun W hW => uM v s W S (HV.out W hW) (HE.out W hW) hs;have HOw : Hid (∀ W, Below W1.heap.size W1 W → Calls zV 182 #[stV v s] W fun e w' => ∃ v', e = .returned (stV v' s) ∧ DocR true w' (fun b => W.heap.size ≤ b) v' s.lines ∧ Below W.heap.size W w') := zA fun W hW => zFV v s W S (HV.out W hW) hf;have HVF := zA (zB h (zB hs hf));have HG := zA hg;have HR := zA (show kR f s = if mayS s = true then (if xY (fun l => (f l).isSome) s s.lines.length = true then (⟨zBI f s, s.anc, s.foc, 0, 0⟩, 0) else (noS, 7)) else (noS, 1) from rfl);obtain ⟨p0, f0⟩ := blk k0;obtain ⟨p1, f1⟩ := blk k1;obtain ⟨p2, f2⟩ := blk k2;obtain ⟨va, vc, rfl⟩ := h.slice;cases hm : mayS s
 ·rw [hm] at HM HR
  have HR : Hid (kR f s = (noS, 1)) := zA (HR.out.trans (if_neg qT));clear h he hs hf k0 k1 k2 hB hm HOw HVF HG hg;go_enter Tryz.func134, Tryz.ntmps134;go_wp2_with (go_at_call 27; refine (HM.out _ hw0).mono ?_; rintro e w2 ⟨rfl, hb2⟩; obtain ⟨q0, g0⟩ := blk (HB.out _ hb2).1; obtain ⟨q2, g2⟩ := blk (HB.out _ hb2).2.2);refine zM (jU rfl _ _ (w.heap.size + 2) (.slice none 0 0) (.int .i64 0) (.int .i64 0) (.int .i64 0) (.int .i64 0) (.int .i64 0) (.int .i64 0) (.int .i64 1) rfl rfl (by simp [qR, jB, (HB.out _ hb2).2.2])) rfl ?_;unfold StSaid;rw [HR.out];have hfin := H1.out.trans (hb2.mono hs1);exact ⟨_, rfl, SliceR.nil _ _ _ _ _ _, by ((with_reducible repeat' first | exact zE _ _ | assumption | refine zG ?_ ?_ _ | refine zH ?_ | refine qQ ?_ | refine zF ?_ ?_ _) <;> go_size)⟩
 rw [hm] at HM HR;rw [if_pos rfl] at HR;obtain ⟨i, j, hi, hj, hij, hjl⟩ := zAT hm;have HSI := zA (zB hi hj)
 have HR : Hid (kR f s = if ((List.range' i (j + 1 - i)).any fun k => (f (kI s k)).isSome) = true then (⟨vU f s (List.range' i (j + 1 - i)), s.anc, s.foc, 0, 0⟩, 0) else (noS, 7)) := zA (by
  rw [HR.out, zKj hi hj hij hjl];have := zGo hi hj hij hjl (fun l => (f l).isSome);rw [this])
 have HML : Hid (∀ l ∈ s.lines, mayL l = true) := zA (uY.1 (vY hm).1).2.2.2;clear h he hs hf k0 k1 k2 hB hm hg hi hj;refine (callsIn_wide (n := 6)).1 ?_;refine callsIn_of_wp_marks Tryz.func134 rfl trivial ?_ rfl;simp only [Tryz.ntmps134, List.size_toArray, List.length_cons, List.length_nil, Nat.reduceAdd, Nat.reduceSub, Array.replicate_succ, Array.replicate_zero, List.push_toArray, List.append_toArray, List.nil_append, List.cons_append];have hwf : ∀ f, Fence.wide.fn f := fun _ => trivial;have hwd : Fence.wide.depth = none := rfl
 gi_wp2_with (first
  | (gi_at_call 27; refine (callsIn_wide.2 (HM.out _ hw0)).mono ?_; rintro e w2 ⟨rfl, hb2⟩; obtain ⟨q0, g0⟩ := blk (HB.out _ hb2).1)
  | (gi_at_call 182; refine (callsIn_wide.2 (HOw.out _ hb2)).mono ?_; rintro e w3 ⟨v3, rfl, hv3, hst3⟩; obtain ⟨a3, c3, rfl⟩ := hv3.slice; have hb3 := jH hb2 hst3; have HV3 := zA hv3; clear hv3; obtain ⟨q1, g1⟩ := blk (HB.out _ hb3).1; have hz3 := hb3.size; have na3 : ¬ w3.heap.size = w.heap.size := qE; have r1 := zMa (HB.out _ hb3).1)
  | (gi_at_call 46; refine (callsIn_wide.2 (zCZ _ _ _ s _)).mono ?_; rintro e w5 ⟨rfl, rfl⟩))
 have HP : Hid (∀ (u : Value), stV u s = .agg #[u, .int .i64 s.anc.line, .int .i64 s.anc.col, .int .i64 s.foc.line, .int .i64 s.foc.col, .int .i64 s.on, .int .i64 s.off]) := zA fun _ => rfl;obtain ⟨w6, hw6⟩ : ∃ w6, ((w3.alloc (.cells #[.slice a3 s.lines.length c3, .int .i64 s.anc.line, .int .i64 s.anc.col, .int .i64 s.foc.line, .int .i64 s.foc.col, .int .i64 0, .int .i64 0] 26)).alloc (.cells #[.int .i64 7] 48)).alloc (.cells #[.slice va s.lines.length vc, .int .i64 s.anc.line, .int .i64 s.anc.col, .int .i64 s.foc.line, .int .i64 s.foc.col, .int .i64 s.on, .int .i64 s.off] 26) = w6 := ⟨_, rfl⟩;rw [hw6];have hb36 : Below w3.heap.size w3 w6 := hw6 ▸ (((zE _ _).alloc (zC _) _).alloc qT _).alloc jD _;have hz6 : w6.heap.size = w3.heap.size + 3 := by rw [← hw6]; simp
 have m0 : w6.heap[w3.heap.size]? = some (.cells #[.slice a3 s.lines.length c3, .int .i64 s.anc.line, .int .i64 s.anc.col, .int .i64 s.foc.line, .int .i64 s.foc.col, .int .i64 0, .int .i64 0] 26) := hw6 ▸ zY _ _ (zY _ _ (qF _ _ rfl));have m1 : w6.heap[w3.heap.size + 1]? = some (.cells #[.int .i64 7] 48) := hw6 ▸ zY _ _ (qF _ _ qT);have m2 : w6.heap[w3.heap.size + 1 + 1]? = some (.cells #[.slice va s.lines.length vc, .int .i64 s.anc.line, .int .i64 s.anc.col, .int .i64 s.foc.line, .int .i64 s.foc.col, .int .i64 s.on, .int .i64 s.off] 26) := hw6 ▸ qF _ _ qT;have hb6 := jH hb3 hb36;have hw3 : Below w.heap.size w w3 := H1.out.trans (hb3.mono hs1);have hbw : Below w.heap.size w w6 := hw3.trans (hb36.mono qE);have hs2 := hb2.size;have hzz : w.heap.size + 3 ≤ w3.heap.size := by omega
 have hEB : EB (w0 := w) (S := S) (s := s) f (.slice a3 s.lines.length c3) (.func (.func g) #[] lb) w w3.heap.size (w3.heap.size + 1) w6.heap.size [] w6 := ⟨m0, m1, zX hb36 (HB.out _ hb3).2.1, zX hb36 (HB.out _ hb3).2.2, qG (zZ true) HV3.out (.all hb36) (fun b hb hz => (by have hb : w2.heap.size ≤ b := hb; exact ⟨by omega, by omega, by omega⟩)), hbw, zC _⟩;have N2 := zA m2;have HBW := zA hbw;clear hw6 q0 g0 q1 g1 r1 p0 f0 p1 f1 p2 f2 hW1 m0 m1 m2
 refine zBr rfl qE (gf := 87) (lb := #[.pointer (some ⟨w3.heap.size + 1 + 1, 0, none⟩)]) rfl trivial (enters_of Tryz.func87 qC rfl)
  (encs := zAv (w0 := w) (S := S) (s := s)) (n₀ := w.heap.size) (base := w3.heap.size + 2) (S := fun ys => ys.map (·.i) = List.range' i (j + 1 - i)) (Sp := fun pre => pre.map (·.i) = List.range' i pre.length ∧ pre.length ≤ j + 1 - i) (N := 200000) (w0 := w6) ?seq qE (zE _ _) (fun _ => rfl)
  (EB f (.slice a3 s.lines.length c3) (.func (.func g) #[] lb) w w3.heap.size (w3.heap.size + 1) w6.heap.size) (fun _ _ _ => False) (zMV qE) (fun _ _ _ _ _ hs _ _ => hs) hEB (fun _ _ h => h.2.2.2.2.2.2)
  (fun x => #[.int .i64 x.l.quote, .slice x.la x.l.lists.length x.lc, .int .i64 x.l.kind, .slice x.ca x.l.cells.length x.cc]) 47 ?act ?assign ?body ?done ?stop
 case seq =>
  intro l J Jx W hW hJ _ hY h0;have hzW := hW.size;exact zDV 5 l (w3.heap.size + 1 + 1) (w3.heap.size + 2) (.slice va s.lines.length vc) s i j S w W J Jx HVF.out.1 (HBW.out.trans (hW.mono HBW.out.size)) qE qE (zX hW N2.out) HSI.out.1 HSI.out.2 hij hjl HVF.out.2.1.2.1 hJ hY h0
 case assign =>
  intro l pre x W K Bx hBx hI hK;unfold zAv linV;rw [zDU];simp only [qI, qX, qY]
  repeat (first | go_values | gi_guarded | gi_step | gi_upon)
  rw [← hBx];exact hK
 case body =>
  intro l pre x Bx W hI hBx hbx hlt;obtain ⟨t0, t1, t2, t3, hD, hb, hz⟩ := hI;obtain ⟨k, ln, la, lc, ca, cc, row, hL, hC⟩ := x;have hkl := (List.getElem?_eq_some_iff.1 row).1;have hmem := List.mem_of_getElem? row;have hGG := zA (fun W' (hW' : Below w.heap.size w W') => HG.out W' ln la ca lc cc hW' hmem (HML.out ln hmem) hL hC);obtain ⟨O, hO⟩ : ∃ O, vU f s (pre.map (·.i)) = O := ⟨_, rfl⟩;have hOl : O.length = s.lines.length := by rw [← hO, zLb]
  rw [hO] at hD;obtain ⟨m, hm, _⟩ := jJ O k qE;have hAny : anyX f (pre ++ [(⟨k, ln, la, lc, ca, cc, row, hL, hC⟩ : SelX w S s)]) = (anyX f pre || (f ln).isSome) := by simp [anyX]
  have hFold : vU f s ((pre ++ [(⟨k, ln, la, lc, ca, cc, row, hL, hC⟩ : SelX w S s)]).map (·.i)) = match f ln with | some l' => O.set k l' | none => O := by
   rw [List.map_append, List.map_singleton, zFH, hO]
   show (match s.lines[k]? with | some l => (match f l with | some l' => O.set k l' | none => O) | none => O) = _
   rw [row]
  obtain ⟨s0, s0f⟩ := blk t0;obtain ⟨s1, s1f⟩ := blk t1;obtain ⟨s2, s2f⟩ := blk t2;obtain ⟨sx, sxf⟩ := blk hbx;have hbW : Below w.heap.size w W := hb;have HIN := zA (zB t0 (zB t1 (zB t2 (zB hb (zB hz t3)))));have HD := zA hD;have HF := zA hFold;have HA := zA hAny;have HX := zA hbx;have HM := zA hm;have hzW := hb.size;have hgg := hGG.out W hb;unfold linV at hgg;obtain ⟨r, hr⟩ : ∃ r, f ln = r := ⟨_, rfl⟩;rw [hr] at HF HA hgg;have HC := zA hgg;clear t0 t1 t2 t3 hD hb hFold hAny hbx hm hgg hGG hO;simp only at s0 sx ⊢;cases r with
  | none =>
   gi_wp2_with fail
   refine (callsIn_wide.2 HC.out).mono ?_;rintro e w7 ⟨_, he7, hb7⟩;obtain rfl := he7 rfl
   gi_wp2_with fail
   have hb8 : Below W.heap.size W (w7.alloc (.cells #[.int .i64 0, .slice none 0 0, .int .i64 0, .slice none 0 0] 47)) := hb7.alloc hb7.size _;have hbw8 := jH HIN.out.2.2.2.1 hb8;refine ⟨(uG hb8).from _, Kp.of_below (by have := HIN.out.2.2.2.1.size; omega) hb8, zX hb8 HIN.out.1, ?_, zX hb8 HIN.out.2.2.1, zX hb8 HIN.out.2.2.2.2.2, ?_, hbw8, ?_⟩
   ·rw [HA.out, Option.isSome_none, Bool.or_false]
    exact zX hb8 HIN.out.2.1
   ·rw [HF.out]
    exact SliceR.below (zZ true) HD.out hb8
   ·have := hb8.size; have := HIN.out.2.2.2.2.1; omega
  | some l' =>
   gi_wp2_with fail
   refine (callsIn_wide.2 HC.out).mono ?_;rintro e w7 ⟨he7, _, hb7⟩;obtain ⟨x1, x2, rfl, hx1, hx2⟩ := he7 _ rfl;obtain ⟨a1, c1, rfl⟩ := hx1.slice;obtain ⟨a2, c2, rfl⟩ := hx2.slice;have HX12 := zA (zB hx1 hx2);have hz7 := hb7.size;have hb7w : Below w.heap.size w w7 := jH HIN.out.2.2.2.1 hb7;have hD7 := SliceR.below (zZ true) HD.out hb7;obtain ⟨b4, o4, la4, lc4, ca4, cc4, e4, hS4, hlt4, hA4, hfr4, cs4, hcs4⟩ := zCu (a := a3) (n := s.lines.length) (c := c3) hD7 HM.out;subst e4
   have hv4 : b4 < w3.heap.size ∧ w2.heap.size ≤ b4 := by
    obtain ⟨b5, o5, la5, lc5, ca5, cc5, e5, hS5, hlt5, _⟩ := zCu HV3.out row;cases e5;exact ⟨hlt5, hS5⟩
   have hS4 : w.heap.size ≤ b4 := by have := hS4.1; omega
   obtain ⟨y0, y0f⟩ := blk (zX hb7 HIN.out.1);obtain ⟨y1, y1f⟩ := blk (zX hb7 HIN.out.2.1);obtain ⟨_, k0, k1, k2, k3, _, _⟩ := hA4;have v1 : ¬ b4 = w3.heap.size := by omega
   have v2 : ¬ b4 = w3.heap.size + 1 := by omega
   have v3 : ¬ w3.heap.size = b4 := by omega
   have v4 : ¬ w3.heap.size + 1 = b4 := by omega
   have v5 : w3.heap.size + 1 < w7.heap.size := by omega
   have v6 : w3.heap.size < w7.heap.size := by omega
   have v7 : b4 < w7.heap.size := by omega
   have t1 := jR (y1 0);have t5 : ∀ ob k, (w7.alloc ob).frozen? ⟨w3.heap.size + 1, k, none⟩ = false := fun ob k => yJ (zY _ ob (zX hb7 HIN.out.2.1));have HD7 := zA hD7;have i0 : (0 : Int) ≤ (k : Int) := zR _;have i1 : (k : Int) < (s.lines.length : Int) := by omega
   have t0 := jR (y0 0);have t4 : ∀ ob k, (w7.alloc ob).frozen? ⟨b4, k, none⟩ = false := fun ob k => yJ (zY _ ob hcs4);have u0 := jR k0;have u1 := jR k1;have u2 := jR k2;have u3 := jR k3;clear hx1 hx2 hD7 hcs4;unfold linV;simp only []
   repeat (first | go_values | gi_guarded | gi_step | gi_upon)
   have hx1 : jL true w7 (fun b => w.heap.size + 3 ≤ b ∧ b ≠ w3.heap.size ∧ b ≠ w3.heap.size + 1) (.slice a1 l'.lists.length c1) l'.lists := qG (qB _) HX12.out.1 (qM _ _) (fun b h _ => by have h' : W.heap.size ≤ b := h; have := HIN.out.2.2.2.2.1; exact ⟨by omega, by omega, by omega⟩);have hx2 : jE true w7 (fun b => w.heap.size + 3 ≤ b ∧ b ≠ w3.heap.size ∧ b ≠ w3.heap.size + 1) (.slice a2 l'.cells.length c2) l'.cells := qG (qB _) HX12.out.2 (qM _ _) (fun b h _ => by have h' : W.heap.size ≤ b := h; have := HIN.out.2.2.2.2.1; exact ⟨by omega, by omega, by omega⟩);have hd7 := HD7.out;rw [← hOl] at hd7;obtain ⟨W9, hW9, hD9, hk9, hz9, hb9⟩ := zDP hd7 HM.out l' (.slice a1 l'.lists.length c1) (.slice a2 l'.cells.length c2) hx1 hx2;rw [hW9];obtain ⟨W10, hW10⟩ : ∃ W10, (W9.setCell ⟨w3.heap.size + 1, 0, none⟩ (.int .i64 0)).alloc (.cells #[.int .i64 l'.quote, .slice a1 l'.lists.length c1, .int .i64 l'.kind, .slice a2 l'.cells.length c2] 47) = W10 := ⟨_, rfl⟩;rw [hW10]
   have hkp : Kp w.heap.size (w3.heap.size + 2) w7 W10 := by
    rw [← hW10, ← hW9];exact (((((Kp.setCell _ hS4 qE _).t (Kp.setCell _ hS4 qE _)).t (Kp.setCell _ hS4 qE _)).t (Kp.setCell _ hS4 qE _)).t (Kp.setCell _ qE qE _)).t (Kp.of_below jD ((zE _ _).alloc (zC _) _))
   have hko : KeepsOthers w7 W10 := by
    rw [← hW10, ← hW9];exact (((((KeepsOthers.setCell _ _ _).trans (KeepsOthers.setCell _ _ _)).trans (KeepsOthers.setCell _ _ _)).trans (KeepsOthers.setCell _ _ _)).trans (KeepsOthers.setCell _ _ _)).trans (KeepsOthers.alloc _ _)
   have hH : ∀ b o, b ≠ b4 → b ≠ w3.heap.size + 1 → w7.heap[b]? = some o → W10.heap[b]? = some o := fun b o h1 h2 h3 => by
    rw [← hW10];exact zY _ _ (by rw [qR, if_neg (Ne.symm h2), hk9 b h1, h3])
   have hM : W10.heap[w3.heap.size + 1]? = some (.cells #[.int .i64 0] 48) := by
    rw [← hW10];exact zY _ _ (by rw [qR, if_pos rfl, hk9 _ v4, zX hb7 HIN.out.2.1]; rfl)
   have hD10 : DocR true W10 (fun b => w.heap.size + 3 ≤ b ∧ b ≠ w3.heap.size ∧ b ≠ w3.heap.size + 1) (.slice (some ⟨b4, o4, none⟩) O.length c3) (O.set k l') := by
    rw [← hW10];exact qG (zZ true) hD9 (((qM _ _).set qT _).alloc _) (fun b h _ => h)
   refine ⟨((uG hb7).trans hko).from _, (Kp.of_below qE hb7).t hkp, hH _ _ v3 qE (zX hb7 HIN.out.1), ?_, hH _ _ qE qE (zX hb7 HIN.out.2.2.1), hH _ _ qE qE (zX hb7 HIN.out.2.2.2.2.2), ?_, hb7w.trans hkp.below, ?_⟩
   ·rw [HA.out, Option.isSome_some, Bool.or_true]
    exact hM
   ·rw [HF.out, ← hOl]
    exact hD10
   ·have := hkp.below.size; have := HIN.out.2.2.2.2.1; omega
 case done =>
  rintro D ys W hD hys ⟨t0, t1, t2, t3, hDoc, hb, hz⟩ hK
  have hAny : anyX f ys = (List.range' i (j + 1 - i)).any fun k => (f (kI s k)).isSome := by
   rw [← hys, List.any_map];unfold anyX;refine congrArg (List.any ys) (funext fun x => ?_)
   show _ = (f (kI s x.i)).isSome
   have : kI s x.i = x.l := by unfold kI; rw [List.getD_eq_getElem?_getD, x.row]; rfl
   rw [this]
  rw [hys] at hDoc;rw [← hAny] at HR;have HDOC := zA hDoc;have HB9 := zA hb;have HK9 := zA hK;have HT := zA (zB t0 (zB t1 t3));obtain ⟨s0, s0f⟩ := blk t0;obtain ⟨s1, s1f⟩ := blk t1;obtain ⟨s3, s3f⟩ := blk t3;have w1 : ¬ w.heap.size + 2 = w3.heap.size := by omega
  have w2' : ¬ w.heap.size + 2 = w3.heap.size + 1 := by omega
  have w3' : ¬ w3.heap.size = w.heap.size + 2 := by omega
  have w4' : ¬ w3.heap.size + 1 = w.heap.size + 2 := by omega
  have w5' : ¬ w.heap.size + 2 = D := by omega
  have w6' : ¬ D = w.heap.size + 2 := by omega
  cases hA : anyX f ys
  ·rw [hA] at HR s1
   have HR : Hid (kR f s = (noS, 7)) := zA (HR.out.trans (if_neg qT));have s1 : ∀ k, W.cell? ⟨w3.heap.size + 1, k, none⟩ = #[Value.int .i64 7][k]? := s1;clear hDoc t0 t1 t2 t3 hb hK hA hAny
   gi_wp2_with fail
   gi_region
   gi_wp2_with fail
   obtain ⟨Y, hY⟩ : ∃ Y, World.drew (((((((W.setCell ⟨w.heap.size + 1 + 1, 0, none⟩ (.slice none 0 0)).setCell ⟨w.heap.size + 1 + 1, 1, none⟩ (.int .i64 0)).setCell ⟨w.heap.size + 1 + 1, 2, none⟩ (.int .i64 0)).setCell ⟨w.heap.size + 1 + 1, 3, none⟩ (.int .i64 0)).setCell ⟨w.heap.size + 1 + 1, 4, none⟩ (.int .i64 0)).setCell ⟨w.heap.size + 1 + 1, 5, none⟩ (.int .i64 0)).setCell ⟨w.heap.size + 1 + 1, 6, none⟩ (.int .i64 0)) = Y := ⟨_, rfl⟩;rw [hY];have hYB : Y.heap[w.heap.size + 2]? = some (.cells #[.slice none 0 0, .int .i64 0, .int .i64 0, .int .i64 0, .int .i64 0, .int .i64 0, .int .i64 0] 26) := by rw [← hY, zDD]; simp [qR, jB, HT.out.2.2]
   have hYD : Y.heap[D]? = some (.deferred (some [])) := by rw [← hY, zDD]; simp [qR, HK9.out, w5']
   have hYb : Below w.heap.size w Y := by
    rw [← hY];exact (((((((HB9.out.setCell yE _).setCell yE _).setCell yE _).setCell yE _).setCell yE _).setCell yE _).setCell yE _).drew
   refine ⟨by simp, .inl ⟨_, _, rfl, run_takeDeferred hYD, ?_⟩⟩;refine ⟨_, jU rfl _ _ (w.heap.size + 2) _ _ _ _ _ _ _ (.int .i64 7) rfl rfl ((World.putObj_heap_other qE).trans hYB), ?_⟩;unfold StSaid;rw [HR.out];exact ⟨_, rfl, SliceR.nil _ _ _ _ _ _, hYb.trans (belowK_b (w := w) (zC _) Y D _ _ qE hYD rfl rfl)⟩
  ·rw [hA] at HR s1
   have HR : Hid (kR f s = (⟨vU f s (List.range' i (j + 1 - i)), s.anc, s.foc, 0, 0⟩, 0)) := zA (HR.out.trans (if_pos rfl));have s1 : ∀ k, W.cell? ⟨w3.heap.size + 1, k, none⟩ = #[Value.int .i64 0][k]? := s1;clear hDoc t0 t1 t2 t3 hb hK hA hAny
   gi_wp2_with fail
   obtain ⟨Y, hY⟩ : ∃ Y, (((((((W.setCell ⟨w.heap.size + 1 + 1, 0, none⟩ (.slice a3 s.lines.length c3)).setCell ⟨w.heap.size + 1 + 1, 1, none⟩ (.int .i64 s.anc.line)).setCell ⟨w.heap.size + 1 + 1, 2, none⟩ (.int .i64 s.anc.col)).setCell ⟨w.heap.size + 1 + 1, 3, none⟩ (.int .i64 s.foc.line)).setCell ⟨w.heap.size + 1 + 1, 4, none⟩ (.int .i64 s.foc.col)).setCell ⟨w.heap.size + 1 + 1, 5, none⟩ (.int .i64 0)).setCell ⟨w.heap.size + 1 + 1, 6, none⟩ (.int .i64 0)) = Y := ⟨_, rfl⟩;rw [hY];have hYB : Y.heap[w.heap.size + 2]? = some (.cells #[.slice a3 s.lines.length c3, .int .i64 s.anc.line, .int .i64 s.anc.col, .int .i64 s.foc.line, .int .i64 s.foc.col, .int .i64 0, .int .i64 0] 26) := by rw [← hY]; simp [qR, jB, HT.out.2.2]
   have hYD : Y.heap[D]? = some (.deferred (some [])) := by rw [← hY]; simp [qR, HK9.out, w5']
   have hYb : Below w.heap.size w Y := by
    rw [← hY];exact (((((((HB9.out.setCell yE _).setCell yE _).setCell yE _).setCell yE _).setCell yE _).setCell yE _).setCell yE _)
   refine ⟨by simp, .inl ⟨_, _, rfl, run_takeDeferred hYD, ?_⟩⟩;refine ⟨_, jU rfl _ _ (w.heap.size + 2) _ _ _ _ _ _ _ (.int .i64 0) rfl rfl ((World.putObj_heap_other qE).trans hYB), ?_⟩;unfold StSaid;rw [HR.out];refine ⟨_, rfl, ?_, ?_⟩
   ·rw [if_pos trivial]
    have hYd : DocR true Y (fun b => w.heap.size + 3 ≤ b ∧ b ≠ w3.heap.size ∧ b ≠ w3.heap.size + 1) (.slice a3 s.lines.length c3) (vU f s (List.range' i (j + 1 - i))) := by
     rw [← hY];refine qG (zZ true) HDOC.out ?_ (fun b h _ => h);have hns : ¬ (w.heap.size + 3 ≤ w.heap.size + 1 + 1 ∧ w.heap.size + 1 + 1 ≠ w3.heap.size ∧ w.heap.size + 1 + 1 ≠ w3.heap.size + 1) := by omega
     exact (((((((qM _ _).set hns _).set hns _).set hns _).set hns _).set hns _).set hns _).set hns _
    exact qG (zZ true) ((zAt (β := Unit) D _ _ (fun _ => vU f s (List.range' i (j + 1 - i)))).putObj (s := ()) _ hYd (zC _) hYD rfl) (qM _ _) (fun b h _ => Nat.le_trans qE h.1)
   ·exact hYb.trans (belowK_b (w := w) (zC _) Y D _ _ qE hYD rfl rfl)
 case stop =>
  rintro D c pre W _ _ h _;exact h.elim
set_option maxRecDepth 100000 in
theorem zHD (Bk : Nat) (kind : Int) (l : Lin) (la ca : Option Addr) (lc cc : Nat) (w w0 : World) (S : Nat → Prop) (hkk : 0 ≤ kind ∧ kind ≤ 3) (hk : w.heap[Bk]? = some (.cells #[.int .i64 kind] 3)) (hL : jL false w0 S (.slice la l.lists.length lc) l.lists) (hC : jE false w0 S (.slice ca l.cells.length cc) l.cells) (h0 : Below w0.heap.size w0 w)
  (he : EnvT w) (hs : l.lists.length ≤ 1000000 ∧ l.cells.length ≤ 1000000) (hh : ∀ c ∈ l.cells, c.href.length ≤ 1000000) (hm : mayL l = true) :
  Calls zV 194 #[linV l (.slice la l.lists.length lc) (.slice ca l.cells.length cc), .pointer (some ⟨Bk, 0, none⟩)] w (vO w (yQ kind l)) := by
 obtain ⟨W1, hW1, hB, hz, hA1, hA2⟩ := uX w (.int .i64 l.quote) (.slice la l.lists.length lc) (.int .i64 l.kind) (.slice ca l.cells.length cc) (.int .i64 0) (.slice none 0 0) (.int .i64 0) (.slice none 0 0);have HT := zA (zHz kind l la ca lc cc W1 w0 S hkk hL hC (jH h0 hB) (he.below hB) hs hh hm);have hs1 := hB.size;have hk1 := zX hB hk;have HB0 : Hid (∀ W, Below W1.heap.size W1 W → W.heap[w.heap.size]? = some (.cells #[.int .i64 l.quote, .slice la l.lists.length lc, .int .i64 l.kind, .slice ca l.cells.length cc] 47) ∧ W.heap[w.heap.size + 1]? = some (.cells #[.int .i64 0, .slice none 0 0, .int .i64 0, .slice none 0 0] 47)) := zA fun W hW => ⟨zX hW hA1, zX hW hA2⟩;have H1 := zA hB;obtain ⟨p0, f0⟩ := blk hk1;obtain ⟨p1, f1⟩ := blk hA1;obtain ⟨p2, f2⟩ := blk hA2;obtain ⟨r, hr⟩ : ∃ r, yQ kind l = r := ⟨_, rfl⟩;rw [hr] at HT ⊢;clear hL hC hs hB h0 hr hm he hk hk1;unfold linV at HT ⊢;cases r with
 | none =>
  go_enter Tryz.func194, Tryz.ntmps194;go_wp2_with (go_at_call 195; refine HT.out.mono ?_; rintro e w2 ⟨_, he2, hb2⟩; obtain rfl := he2 rfl; obtain ⟨hA3, hA4⟩ := HB0.out _ hb2; obtain ⟨q0, g0⟩ := blk hA3; obtain ⟨q1, g1⟩ := blk hA4);refine zM (xZ rfl _ _ (w.heap.size + 1) (.int .i64 0) (.slice none 0 0) (.int .i64 0) (.slice none 0 0) rfl yU) rfl ?_;refine ⟨fun l' h => xE, fun _ => rfl, ?_⟩;have := H1.out.trans (hb2.mono hs1)
  ((with_reducible repeat' first | exact zE _ _ | assumption | refine zG ?_ ?_ _ | refine zH ?_ | refine qQ ?_ | refine zF ?_ ?_ _) <;> go_size)
 | some l' =>
  go_enter Tryz.func194, Tryz.ntmps194;go_wp2_with (go_at_call 195; refine HT.out.mono ?_; rintro e w2 ⟨he2, _, hb2⟩; obtain ⟨a', b', rfl, ha', hb'⟩ := he2 _ rfl; obtain ⟨a1, c1, rfl⟩ := ha'.slice; obtain ⟨a2, c2, rfl⟩ := hb'.slice; obtain ⟨hA3, hA4⟩ := HB0.out _ hb2; obtain ⟨q0, g0⟩ := blk hA3; obtain ⟨q1, g1⟩ := blk hA4);refine zM (xZ rfl _ _ (w.heap.size + 1) (.int .i64 l'.quote) (.slice a1 l'.lists.length c1) (.int .i64 l'.kind) (.slice a2 l'.cells.length c2) rfl yU) rfl ?_;refine ⟨fun l'' h => ?_, fun h => xE, ?_⟩
  ·cases h
   exact ⟨_, _, rfl, (qG (qB _) ha' jP (fun b h _ => jM)), (qG (qB _) hb' jP (fun b h _ => jM))⟩
  ·have := H1.out.trans (hb2.mono hs1)
   ((with_reducible repeat' first | exact zE _ _ | assumption | refine zG ?_ ?_ _ | refine zH ?_ | refine qQ ?_ | refine zF ?_ ?_ _) <;> go_size)
set_option maxRecDepth 100000 in
theorem zIN (Bk : Nat) (kind : Int) (l : Lin) (la ca : Option Addr) (lc cc : Nat) (w w0 : World) (S : Nat → Prop) (hkk : kind = 0 ∨ kind = 1) (hk : w.heap[Bk]? = some (.cells #[.int .i64 kind] 3)) (hL : jL false w0 S (.slice la l.lists.length lc) l.lists) (hC : jE false w0 S (.slice ca l.cells.length cc) l.cells) (h0 : Below w0.heap.size w0 w)
  (he : EnvT w) (hs : l.lists.length ≤ 1000000 ∧ l.cells.length ≤ 1000000) (hh : ∀ c ∈ l.cells, c.href.length ≤ 1000000) (hm : mayL l = true) :
  Calls zV 198 #[linV l (.slice la l.lists.length lc) (.slice ca l.cells.length cc), .pointer (some ⟨Bk, 0, none⟩)] w (vO w (yN kind l)) := by
 obtain ⟨W1, hW1, hB, hz, hA1, hA2⟩ := uX w (.int .i64 l.quote) (.slice la l.lists.length lc) (.int .i64 l.kind) (.slice ca l.cells.length cc) (.int .i64 0) (.slice none 0 0) (.int .i64 0) (.slice none 0 0);have HT := zA (zIA kind l la ca lc cc W1 w0 S hkk hL hC (jH h0 hB) (he.below hB) hs hh hm);have hs1 := hB.size;have hk1 := zX hB hk;have HB0 : Hid (∀ W, Below W1.heap.size W1 W → W.heap[w.heap.size]? = some (.cells #[.int .i64 l.quote, .slice la l.lists.length lc, .int .i64 l.kind, .slice ca l.cells.length cc] 47) ∧ W.heap[w.heap.size + 1]? = some (.cells #[.int .i64 0, .slice none 0 0, .int .i64 0, .slice none 0 0] 47)) := zA fun W hW => ⟨zX hW hA1, zX hW hA2⟩;have H1 := zA hB;obtain ⟨p0, f0⟩ := blk hk1;obtain ⟨p1, f1⟩ := blk hA1;obtain ⟨p2, f2⟩ := blk hA2;obtain ⟨r, hr⟩ : ∃ r, yN kind l = r := ⟨_, rfl⟩;rw [hr] at HT ⊢;clear hL hC hs hB h0 hr hm he hk hk1;unfold linV at HT ⊢;cases r with
 | none =>
  go_enter Tryz.func198, Tryz.ntmps198;go_wp2_with (go_at_call 199; refine HT.out.mono ?_; rintro e w2 ⟨_, he2, hb2⟩; obtain rfl := he2 rfl; obtain ⟨hA3, hA4⟩ := HB0.out _ hb2; obtain ⟨q0, g0⟩ := blk hA3; obtain ⟨q1, g1⟩ := blk hA4);refine zM (xZ rfl _ _ (w.heap.size + 1) (.int .i64 0) (.slice none 0 0) (.int .i64 0) (.slice none 0 0) rfl yU) rfl ?_;refine ⟨fun l' h => xE, fun _ => rfl, ?_⟩;have := H1.out.trans (hb2.mono hs1)
  ((with_reducible repeat' first | exact zE _ _ | assumption | refine zG ?_ ?_ _ | refine zH ?_ | refine qQ ?_ | refine zF ?_ ?_ _) <;> go_size)
 | some l' =>
  go_enter Tryz.func198, Tryz.ntmps198;go_wp2_with (go_at_call 199; refine HT.out.mono ?_; rintro e w2 ⟨he2, _, hb2⟩; obtain ⟨a', b', rfl, ha', hb'⟩ := he2 _ rfl; obtain ⟨a1, c1, rfl⟩ := ha'.slice; obtain ⟨a2, c2, rfl⟩ := hb'.slice; obtain ⟨hA3, hA4⟩ := HB0.out _ hb2; obtain ⟨q0, g0⟩ := blk hA3; obtain ⟨q1, g1⟩ := blk hA4);refine zM (xZ rfl _ _ (w.heap.size + 1) (.int .i64 l'.quote) (.slice a1 l'.lists.length c1) (.int .i64 l'.kind) (.slice a2 l'.cells.length c2) rfl yU) rfl ?_;refine ⟨fun l'' h => ?_, fun h => xE, ?_⟩
  ·cases h
   exact ⟨_, _, rfl, (qG (qB _) ha' jP (fun b h _ => jM)), (qG (qB _) hb' jP (fun b h _ => jM))⟩
  ·have := H1.out.trans (hb2.mono hs1)
   ((with_reducible repeat' first | exact zE _ _ | assumption | refine zG ?_ ?_ _ | refine zH ?_ | refine qQ ?_ | refine zF ?_ ?_ _) <;> go_size)
set_option maxRecDepth 100000 in
theorem zHZ (v : Value) (s : St) (w : World) (S : Nat → Prop) (h : jC w S v s.lines) (he : EnvT w) (hs : Small s.lines) (hf : Fits s.lines) :
  Calls zV 78 #[stV v s] w (StSaid (kR vZ s) w) := by
 obtain ⟨W1, hW1, hB, hz, k0, k2⟩ := yF w v s;have HB : Hid (∀ W, Below W1.heap.size W1 W → W.heap[w.heap.size]? = some (.cells #[v, .int .i64 s.anc.line, .int .i64 s.anc.col, .int .i64 s.foc.line, .int .i64 s.foc.col, .int .i64 s.on, .int .i64 s.off] 26) ∧ W.heap[w.heap.size + 1]? = some (.cells #[.slice none 0 0, .int .i64 0, .int .i64 0, .int .i64 0, .int .i64 0, .int .i64 0, .int .i64 0] 26)) := zA fun W hW => ⟨zX hW k0, zX hW k2⟩;have hs1 := hB.size;have H1 := zA hB
 have HC := zA (zBv v s 135 #[] vZ W1 S (h.below (zZ _) hB) (he.below hB) hs hf (enters_of Tryz.func135 qC rfl)
  (fun W l la ca lc cc hW hl hm hL hC => zHy l la ca lc cc W W1 S hL hC hW ((he.below hB).below hW) (hf.2 l hl) (hs.2.2 l hl) hm))
 obtain ⟨X, hX⟩ : ∃ X, kR vZ s = X := ⟨_, rfl⟩;rw [hX] at HC ⊢;obtain ⟨p0, f0⟩ := blk k0;obtain ⟨p1, f1⟩ := blk k2;obtain ⟨va, vc, rfl⟩ := h.slice;clear h he hs hf hB hX k0 k2;go_enter Tryz.func78, Tryz.ntmps78;go_wp2_with (go_at_call 134; refine HC.out.mono ?_; rintro e w2 ⟨v2, rfl, hv2, hb2⟩; obtain ⟨a2, c2, rfl⟩ := hv2.slice; obtain ⟨q0, g0⟩ := blk (HB.out _ hb2).1; obtain ⟨q1, g1⟩ := blk (HB.out _ hb2).2; have HV := zA hv2; clear hv2);refine zM (jU rfl _ _ (w.heap.size + 1) (.slice a2 X.1.lines.length c2) (.int .i64 X.1.anc.line) (.int .i64 X.1.anc.col) (.int .i64 X.1.foc.line) (.int .i64 X.1.foc.col) (.int .i64 X.1.on) (.int .i64 X.1.off) (.int .i64 X.2) rfl rfl vV) rfl ?_;have hfin := H1.out.trans (hb2.mono hs1);have hv2 := HV.out;exact ⟨_, rfl, (qG (zZ _) hv2 jP (fun b h _ => jM)), by ((with_reducible repeat' first | exact zE _ _ | assumption | refine zG ?_ ?_ _ | refine zH ?_ | refine qQ ?_ | refine zF ?_ ?_ _) <;> go_size)⟩
set_option maxRecDepth 100000 in
theorem zHB (v : Value) (s : St) (w : World) (S : Nat → Prop) (h : jC w S v s.lines) (he : EnvT w) (hs : Small s.lines) (hf : Fits s.lines) :
  Calls zV 79 #[stV v s] w (StSaid (kR xH s) w) := by
 obtain ⟨W1, hW1, hB, hz, k0, k2⟩ := yF w v s;have HB : Hid (∀ W, Below W1.heap.size W1 W → W.heap[w.heap.size]? = some (.cells #[v, .int .i64 s.anc.line, .int .i64 s.anc.col, .int .i64 s.foc.line, .int .i64 s.foc.col, .int .i64 s.on, .int .i64 s.off] 26) ∧ W.heap[w.heap.size + 1]? = some (.cells #[.slice none 0 0, .int .i64 0, .int .i64 0, .int .i64 0, .int .i64 0, .int .i64 0, .int .i64 0] 26)) := zA fun W hW => ⟨zX hW k0, zX hW k2⟩;have hs1 := hB.size;have H1 := zA hB
 have HC := zA (zBv v s 115 #[] xH W1 S (h.below (zZ _) hB) (he.below hB) hs hf (enters_of Tryz.func115 qC rfl)
  (fun W l la ca lc cc hW hl hm hL hC => zCY l la ca lc cc W W1 S hL hC hW ((he.below hB).below hW) (hf.2 l hl) (hs.2.2 l hl) hm))
 obtain ⟨X, hX⟩ : ∃ X, kR xH s = X := ⟨_, rfl⟩;rw [hX] at HC ⊢;obtain ⟨p0, f0⟩ := blk k0;obtain ⟨p1, f1⟩ := blk k2;obtain ⟨va, vc, rfl⟩ := h.slice;clear h he hs hf hB hX k0 k2;go_enter Tryz.func79, Tryz.ntmps79;go_wp2_with (go_at_call 134; refine HC.out.mono ?_; rintro e w2 ⟨v2, rfl, hv2, hb2⟩; obtain ⟨a2, c2, rfl⟩ := hv2.slice; obtain ⟨q0, g0⟩ := blk (HB.out _ hb2).1; obtain ⟨q1, g1⟩ := blk (HB.out _ hb2).2; have HV := zA hv2; clear hv2);refine zM (jU rfl _ _ (w.heap.size + 1) (.slice a2 X.1.lines.length c2) (.int .i64 X.1.anc.line) (.int .i64 X.1.anc.col) (.int .i64 X.1.foc.line) (.int .i64 X.1.foc.col) (.int .i64 X.1.on) (.int .i64 X.1.off) (.int .i64 X.2) rfl rfl vV) rfl ?_;have hfin := H1.out.trans (hb2.mono hs1);have hv2 := HV.out;exact ⟨_, rfl, (qG (zZ _) hv2 jP (fun b h _ => jM)), by ((with_reducible repeat' first | exact zE _ _ | assumption | refine zG ?_ ?_ _ | refine zH ?_ | refine qQ ?_ | refine zF ?_ ?_ _) <;> go_size)⟩
theorem zFs (w : World) (v : Value) (s : St) (k : Int) : ∃ W1, ((w.alloc (.cells #[v, .int .i64 s.anc.line, .int .i64 s.anc.col, .int .i64 s.foc.line, .int .i64 s.foc.col, .int .i64 s.on, .int .i64 s.off] 26)).alloc (.cells #[.int .i64 k] 3)).alloc (.cells #[.slice none 0 0, .int .i64 0, .int .i64 0, .int .i64 0, .int .i64 0, .int .i64 0, .int .i64 0] 26) = W1 ∧ Below w.heap.size w W1 ∧ w.heap.size + 3 = W1.heap.size ∧
  W1.heap[w.heap.size]? = some (.cells #[v, .int .i64 s.anc.line, .int .i64 s.anc.col, .int .i64 s.foc.line, .int .i64 s.foc.col, .int .i64 s.on, .int .i64 s.off] 26) ∧ W1.heap[w.heap.size + 1]? = some (.cells #[.int .i64 k] 3) ∧ W1.heap[w.heap.size + 2]? = some (.cells #[.slice none 0 0, .int .i64 0, .int .i64 0, .int .i64 0, .int .i64 0, .int .i64 0, .int .i64 0] 26) :=
 ⟨_, rfl, (((zE _ _).alloc (zC _) _).alloc qT _).alloc jD _, by simp, zY _ _ (zY _ _ (qF _ _ rfl)), zY _ _ (qF _ _ qT), qF _ _ qT⟩
set_option maxRecDepth 100000 in
theorem zBV (v : Value) (s : St) (k : Int) (w : World) (S : Nat → Prop) (h : jC w S v s.lines) (he : EnvT w) (hs : Small s.lines) (hf : Fits s.lines) :
  Calls zV 133 #[stV v s, .int .i64 k] w (StSaid (vA k s) w) := by
 obtain ⟨W1, hW1, hB, hz, k0, k1, k2⟩ := zFs w v s k;have HB : Hid (∀ W, Below W1.heap.size W1 W → W.heap[w.heap.size]? = some (.cells #[v, .int .i64 s.anc.line, .int .i64 s.anc.col, .int .i64 s.foc.line, .int .i64 s.foc.col, .int .i64 s.on, .int .i64 s.off] 26) ∧ W.heap[w.heap.size + 2]? = some (.cells #[.slice none 0 0, .int .i64 0, .int .i64 0, .int .i64 0, .int .i64 0, .int .i64 0, .int .i64 0] 26)) := zA fun W hW => ⟨zX hW k0, zX hW k2⟩;have hs1 := hB.size;have H1 := zA hB
 have HC : Hid (0 ≤ k ∧ k ≤ 3 → Calls zV 134 #[stV v s, .func (.func 194) #[] #[.pointer (some ⟨w.heap.size + 1, 0, none⟩)]] W1 (StSaid (kR (yQ k) s) W1)) := zA fun hk => zBv v s 194 #[.pointer (some ⟨w.heap.size + 1, 0, none⟩)] (yQ k) W1 S (h.below (zZ _) hB) (he.below hB) hs hf (enters_of Tryz.func194 qC rfl)
  (fun W l la ca lc cc hW hl hm hL hC => zHD (w.heap.size + 1) k l la ca lc cc W W1 S hk (zX hW k1) hL hC hW ((he.below hB).below hW) (hf.2 l hl) (hs.2.2 l hl) hm)
 have HR := zA (show vA k s = if k < 0 ∨ 3 < k then (noS, 1) else kR (yQ k) s from rfl);obtain ⟨p0, f0⟩ := blk k0;obtain ⟨p1, f1⟩ := blk k1;obtain ⟨p2, f2⟩ := blk k2;obtain ⟨va, vc, rfl⟩ := h.slice;have HK2 := zA k2;clear h he hs hf hB k0 k1 k2;rcases (show k < 0 ∨ (¬ k < 0 ∧ 3 < k) ∨ (¬ k < 0 ∧ ¬ 3 < k) by omega) with hk | ⟨hk, hk3⟩ | ⟨hk, hk3⟩
 ·have HR : Hid (vA k s = (noS, 1)) := zA (HR.out.trans (if_pos (.inl hk)))
  go_enter Tryz.func133, Tryz.ntmps133;go_wp2_with fail;refine zM (jU rfl _ _ (w.heap.size + 2) (.slice none 0 0) (.int .i64 0) (.int .i64 0) (.int .i64 0) (.int .i64 0) (.int .i64 0) (.int .i64 0) (.int .i64 1) rfl rfl (by simp [qR, jB, HK2.out])) rfl ?_;unfold StSaid;rw [HR.out];have hfin := H1.out;exact ⟨_, rfl, SliceR.nil _ _ _ _ _ _, by ((with_reducible repeat' first | exact zE _ _ | assumption | refine zG ?_ ?_ _ | refine zH ?_ | refine qQ ?_ | refine zF ?_ ?_ _) <;> go_size)⟩
 ·have HR : Hid (vA k s = (noS, 1)) := zA (HR.out.trans (if_pos (.inr hk3)))
  go_enter Tryz.func133, Tryz.ntmps133;go_wp2_with fail;refine zM (jU rfl _ _ (w.heap.size + 2) (.slice none 0 0) (.int .i64 0) (.int .i64 0) (.int .i64 0) (.int .i64 0) (.int .i64 0) (.int .i64 0) (.int .i64 1) rfl rfl (by simp [qR, jB, HK2.out])) rfl ?_;unfold StSaid;rw [HR.out];have hfin := H1.out;exact ⟨_, rfl, SliceR.nil _ _ _ _ _ _, by ((with_reducible repeat' first | exact zE _ _ | assumption | refine zG ?_ ?_ _ | refine zH ?_ | refine qQ ?_ | refine zF ?_ ?_ _) <;> go_size)⟩
 ·have HR : Hid (vA k s = kR (yQ k) s) := zA (HR.out.trans (if_neg (fun e => e.elim hk hk3)))
  have HC := zA (HC.out ⟨by omega, by omega⟩);obtain ⟨X, hX⟩ : ∃ X, kR (yQ k) s = X := ⟨_, rfl⟩;rw [hX] at HC HR;rw [HR.out];clear hX HR;go_enter Tryz.func133, Tryz.ntmps133;go_wp2_with (go_at_call 134; refine HC.out.mono ?_; rintro e w2 ⟨v2, rfl, hv2, hb2⟩; obtain ⟨a2, c2, rfl⟩ := hv2.slice; obtain ⟨q0, g0⟩ := blk (HB.out _ hb2).1; obtain ⟨q1, g1⟩ := blk (HB.out _ hb2).2; have HV := zA hv2; clear hv2);refine zM (jU rfl _ _ (w.heap.size + 2) (.slice a2 X.1.lines.length c2) (.int .i64 X.1.anc.line) (.int .i64 X.1.anc.col) (.int .i64 X.1.foc.line) (.int .i64 X.1.foc.col) (.int .i64 X.1.on) (.int .i64 X.1.off) (.int .i64 X.2) rfl rfl vV) rfl ?_;have hfin := H1.out.trans (hb2.mono hs1);have hv2 := HV.out;exact ⟨_, rfl, (qG (zZ _) hv2 jP (fun b h _ => jM)), by ((with_reducible repeat' first | exact zE _ _ | assumption | refine zG ?_ ?_ _ | refine zH ?_ | refine qQ ?_ | refine zF ?_ ?_ _) <;> go_size)⟩
theorem zFw {fn : Func} {p u : Tmp} (h : fn.results = #[.cell p 4, .cell u 4]) (tmps : Array Value) (w : World) (a b : Addr) (x y : Bool) (hp : tmps.getD p undef = .pointer (some a)) (hu : tmps.getD u undef = .pointer (some b)) (h1 : w.cell? a = some (.bool x)) (h2 : w.cell? b = some (.bool y)) :
  (results fn tmps).run zV w = .ok (.tuple #[.bool x, .bool y]) w := by
 simp only [results, h];simp at hp hu;simp [go_sem, hp, hu, h1, h2]
theorem zDy {fn : Func} {p u : Tmp} (h : fn.results = #[.cell p 3, .cell u 4]) (tmps : Array Value) (w : World) (a b : Addr) (x : Int) (y : Bool) (hp : tmps.getD p undef = .pointer (some a)) (hu : tmps.getD u undef = .pointer (some b)) (h1 : w.cell? a = some (.int .i64 x)) (h2 : w.cell? b = some (.bool y)) :
  (results fn tmps).run zV w = .ok (.tuple #[.int .i64 x, .bool y]) w := by
 simp only [results, h];simp at hp hu;simp [go_sem, hp, hu, h1, h2]
theorem zHC (kind : Int) (l : Lin) (la ca : Option Addr) (lc cc : Nat) (w w0 : World) (S : Nat → Prop) (hL : jL false w0 S (.slice la l.lists.length lc) l.lists) (h0 : Below w0.heap.size w0 w) :
  Calls zV 83 #[linV l (.slice la l.lists.length lc) (.slice ca l.cells.length cc), .int .i64 kind] w fun e w' => e = .returned (.bool (jV kind l)) ∧ Below w.heap.size w w' := by
 obtain ⟨a, c, he, hc, hm, hx⟩ := zAm hL;cases he;unfold maxLen at hm;unfold linV
 by_cases hn : l.lists = []
 ·have HR : Hid (jV kind l = false) := zA (by unfold jV; simp [hn])
  have hl0 : ¬ (0 : Int) < ((l.lists.length : Nat) : Int) := by rw [hn]; decide
  have hl1 : ¬ 0 < l.lists.length := by rw [hn]; decide
  have hl2 : decide ((0 : Int) < ((l.lists.length : Nat) : Int)) = false := decide_eq_false hl0;clear hL hx hn;go_enter Tryz.func83, Tryz.ntmps83;go_wp2_with fail;go_ret;rw [HR.out];exact ⟨rfl, by ((with_reducible repeat' first | exact zE _ _ | assumption | refine zG ?_ ?_ _ | refine zH ?_ | refine qQ ?_ | refine zF ?_ ?_ _) <;> go_size)⟩
 ·obtain ⟨n, hnl⟩ : ∃ n, l.lists.length = n + 1 := ⟨l.lists.length - 1, by have := List.length_pos_iff.2 hn; omega⟩
  obtain ⟨x, hx0, _⟩ := jJ l.lists n qE;obtain ⟨b, o, rfl, hz, c0⟩ := hx n x hx0
  have HR : Hid (jV kind l = (x == kind)) := zA (by
   unfold jV xO;rw [List.getLastD_eq_getLast?, List.getLast?_eq_getElem?, hnl, Nat.add_sub_cancel, hx0]
   by_cases e : x = kind <;> simp [hn, e])
  have hcw := (h0.cell (p := ⟨b, o + n, none⟩) hz).trans c0;have hbw : b < w.heap.size := Nat.lt_of_lt_of_le hz h0.size;have c1 := jR hcw;have hl0 : (0 : Int) < ((n + 1 : Nat) : Int) := by omega
  have hl2 : decide ((0 : Int) < ((n + 1 : Nat) : Int)) = true := decide_eq_true hl0;have e1 : IntKind.i64.wrap (((n + 1 : Nat) : Int) - 1) = (n : Int) := by rw [show (((n + 1 : Nat) : Int) - 1) = (n : Int) by omega]; exact IntWalk.i64_in _ qE
  have e2 : wrap64 (n : Int) = (n : Int) := IntWalk.wrap64_in _ qE;have i0 : (0 : Int) ≤ (n : Int) := zR _;have i1 : (n : Int) < ((n + 1 : Nat) : Int) := by omega
  rw [hnl];clear hL hx hx0 hnl hn c0;go_enter Tryz.func83, Tryz.ntmps83;go_wp2_with fail;go_ret;rw [HR.out];exact ⟨rfl, by ((with_reducible repeat' first | exact zE _ _ | assumption | refine zG ?_ ?_ _ | refine zH ?_ | refine qQ ?_ | refine zF ?_ ?_ _) <;> go_size)⟩
def LB {w0 : World} {S : Nat → Prop} {s : St} (kind : Int) (w : World) (Z : Nat) (pre : List (SelX w0 S s)) (W : World) : Prop :=
 W.heap[w.heap.size + 2]? = some (.cells #[.bool (pre.all fun x => jV kind x.l)] 4) ∧ W.heap[w.heap.size + 3]? = some (.cells #[.bool (pre.any fun x => jV kind x.l)] 4) ∧ W.heap[w.heap.size + 1]? = some (.cells #[.int .i64 kind] 3) ∧ Below w.heap.size w W ∧ Z ≤ W.heap.size
theorem zMP {w0 : World} {S : Nat → Prop} {s : St} {kind : Int} {w : World} {Z B : Nat} (hB : w.heap.size ≤ B) : OwnFrom B (LB (w0 := w0) (S := S) (s := s) kind w Z) :=
 OwnFrom.and (fun pre X _ _ hs hg hr => yA (β := Unit) B _ _ _ () X _ _ hs hg hr) (OwnFrom.and (fun pre X _ _ hs hg hr => yA (β := Unit) B _ _ _ () X _ _ hs hg hr) (OwnFrom.and (yA _ _ _ _) (OwnFrom.and (ownFrom_below (zC _) hB) (uV _ _))))
theorem zHQ (w : World) (v : Value) (s : St) (k : Int) : ∃ W1, (((w.alloc (.cells #[v, .int .i64 s.anc.line, .int .i64 s.anc.col, .int .i64 s.foc.line, .int .i64 s.foc.col, .int .i64 s.on, .int .i64 s.off] 26)).alloc (.cells #[.int .i64 k] 3)).alloc (.cells #[.bool false] 4)).alloc (.cells #[.bool false] 4) = W1 ∧ Below w.heap.size w W1 ∧ w.heap.size + 4 = W1.heap.size ∧
  W1.heap[w.heap.size]? = some (.cells #[v, .int .i64 s.anc.line, .int .i64 s.anc.col, .int .i64 s.foc.line, .int .i64 s.foc.col, .int .i64 s.on, .int .i64 s.off] 26) ∧ W1.heap[w.heap.size + 1]? = some (.cells #[.int .i64 k] 3) ∧ W1.heap[w.heap.size + 2]? = some (.cells #[.bool false] 4) ∧ W1.heap[w.heap.size + 3]? = some (.cells #[.bool false] 4) :=
 ⟨_, rfl, ((((zE _ _).alloc (zC _) _).alloc qT _).alloc jD _).alloc jD _, by simp, zY _ _ (zY _ _ (zY _ _ (qF _ _ rfl))), zY _ _ (zY _ _ (qF _ _ qT)), zY _ _ (qF _ _ qT), qF _ _ qT⟩
set_option maxRecDepth 200000 in
theorem zEF (v : Value) (s : St) (kind : Int) (w : World) (S : Nat → Prop) (h : jC w S v s.lines) (he : EnvT w) (hs : Small s.lines) :
  Calls zV 42 #[stV v s, .int .i64 kind] w fun e w' => e = .returned (.tuple #[.bool (kF kind s).1, .bool (kF kind s).2]) ∧ Below w.heap.size w w' := by
 obtain ⟨W1, hW1, hB, hz, k0, k1, k2, k3⟩ := zHQ w v s kind;have HB : Hid (∀ W, Below W1.heap.size W1 W → W.heap[w.heap.size]? = some (.cells #[v, .int .i64 s.anc.line, .int .i64 s.anc.col, .int .i64 s.foc.line, .int .i64 s.foc.col, .int .i64 s.on, .int .i64 s.off] 26) ∧ W.heap[w.heap.size + 1]? = some (.cells #[.int .i64 kind] 3) ∧ W.heap[w.heap.size + 2]? = some (.cells #[.bool false] 4) ∧ W.heap[w.heap.size + 3]? = some (.cells #[.bool false] 4)) := zA fun W hW => ⟨zX hW k0, zX hW k1, zX hW k2, zX hW k3⟩;have hs1 := hB.size;have H1 := zA hB;have hw0 : Below W1.heap.size W1 W1 := zE _ _;have HM := zA (uM v s W1 S (h.below (zZ _) hB) (he.below hB) hs);have HVF := zA (zB h hs);have HR := zA (show kF kind s = if mayS s = true then (kP (jV kind) s s.lines.length, xY (jV kind) s s.lines.length) else (false, false) from rfl);obtain ⟨p0, f0⟩ := blk k0;obtain ⟨p1, f1⟩ := blk k1;obtain ⟨p2, f2⟩ := blk k2;obtain ⟨p3, f3⟩ := blk k3;obtain ⟨va, vc, rfl⟩ := h.slice;have hm0 : Hid (mayS s = mayS s) := zA rfl;obtain ⟨m, hm⟩ : ∃ m, mayS s = m := ⟨_, rfl⟩;rw [hm] at HM HR;cases m
 ·have HR : Hid (kF kind s = (false, false)) := zA (HR.out.trans (if_neg qT))
  clear h he hs k0 k1 k2 k3 hB hm HVF;go_enter Tryz.func42, Tryz.ntmps42;go_wp2_with (go_at_call 27; refine HM.out.mono ?_; rintro e w2 ⟨rfl, hb2⟩; obtain ⟨q2, g2⟩ := blk (HB.out _ hb2).2.2.1; obtain ⟨q3, g3⟩ := blk (HB.out _ hb2).2.2.2; have HB2 := zA hb2);refine zM (zFw rfl _ _ ⟨w.heap.size + 1 + 1, 0, none⟩ ⟨w.heap.size + 1 + 1 + 1, 0, none⟩ false false rfl rfl ((kT (by show ¬ w.heap.size + 1 + 1 + 1 = w.heap.size + 1 + 1; omega)).trans (yV (q2 0))) (yV ((kT zEf).trans (q3 0)))) rfl ?_;rw [HR.out];have hfin := H1.out.trans (HB2.out.mono hs1);exact ⟨rfl, by ((with_reducible repeat' first | exact zE _ _ | assumption | refine zG ?_ ?_ _ | refine zH ?_ | refine qQ ?_ | refine zF ?_ ?_ _) <;> go_size)⟩
 rw [if_pos rfl] at HR;obtain ⟨i, j, hi, hj, hij, hjl⟩ := zAT hm;have HSI := zA (zB hi hj)
 have HR : Hid (kF kind s = ((List.range' i (j + 1 - i)).all fun k => jV kind (kI s k), (List.range' i (j + 1 - i)).any fun k => jV kind (kI s k))) := zA (by
  rw [HR.out, ← zGo hi hj hij hjl (jV kind), ← zGq hi hj hij hjl (jV kind)])
 clear h he hs k0 k1 k2 k3 hB hm hi hj;refine (callsIn_wide (n := 6)).1 ?_;refine callsIn_of_wp_marks Tryz.func42 rfl trivial ?_ rfl;simp only [Tryz.ntmps42, List.size_toArray, List.length_cons, List.length_nil, Nat.reduceAdd, Nat.reduceSub, Array.replicate_succ, Array.replicate_zero, List.push_toArray, List.append_toArray, List.nil_append, List.cons_append];have hwf : ∀ f, Fence.wide.fn f := fun _ => trivial;have hwd : Fence.wide.depth = none := rfl
 gi_wp2_with (first
  | (gi_at_call 27; refine (callsIn_wide.2 HM.out).mono ?_; rintro e w2 ⟨rfl, hb2⟩; obtain ⟨q0, g0⟩ := blk (HB.out _ hb2).1; obtain ⟨q2, g2⟩ := blk (HB.out _ hb2).2.2.1; obtain ⟨q3, g3⟩ := blk (HB.out _ hb2).2.2.2)
  | (gi_at_call 46; refine (callsIn_wide.2 (zCZ _ _ _ s _)).mono ?_; rintro e w5 ⟨rfl, rfl⟩))
 obtain ⟨w6, hw6⟩ : ∃ w6, (w2.setCell ⟨w.heap.size + 1 + 1, 0, none⟩ (.bool true)).alloc (.cells #[.slice va s.lines.length vc, .int .i64 s.anc.line, .int .i64 s.anc.col, .int .i64 s.foc.line, .int .i64 s.foc.col, .int .i64 s.on, .int .i64 s.off] 26) = w6 := ⟨_, rfl⟩;rw [hw6];have hs2 := hb2.size;have hz6 : w6.heap.size = w2.heap.size + 1 := by rw [← hw6]; simp
 have m1 : w6.heap[w.heap.size + 2]? = some (.cells #[.bool true] 4) := hw6 ▸ zY _ _ (by rw [qR, if_pos rfl, (HB.out _ hb2).2.2.1]; rfl);have m2 : w6.heap[w.heap.size + 3]? = some (.cells #[.bool false] 4) := hw6 ▸ zY _ _ (by rw [qR, if_neg (by show ¬ w.heap.size + 1 + 1 = w.heap.size + 3; omega), (HB.out _ hb2).2.2.2]);have m3 : w6.heap[w.heap.size + 1]? = some (.cells #[.int .i64 kind] 3) := hw6 ▸ zY _ _ (by rw [qR, if_neg zBl, (HB.out _ hb2).2.1]);have m4 : w6.heap[w2.heap.size]? = some (.cells #[.slice va s.lines.length vc, .int .i64 s.anc.line, .int .i64 s.anc.col, .int .i64 s.foc.line, .int .i64 s.foc.col, .int .i64 s.on, .int .i64 s.off] 26) := hw6 ▸ qF _ _ qT;have hbw : Below w.heap.size w w6 := hw6 ▸ ((H1.out.trans (hb2.mono hs1)).setCell yE _).alloc jD _;have hLB : LB (w0 := w) (S := S) (s := s) kind w w6.heap.size [] w6 := ⟨m1, m2, m3, hbw, zC _⟩;have N2 := zA m4;have HBW := zA hbw;clear hw6 q0 g0 q2 g2 q3 g3 p0 f0 p1 f1 p2 f2 p3 f3 hW1 m1 m2 m3 m4
 refine zBr rfl qE (gf := 87) (lb := #[.pointer (some ⟨w2.heap.size, 0, none⟩)]) rfl trivial (enters_of Tryz.func87 qC rfl)
  (encs := zAv (w0 := w) (S := S) (s := s)) (n₀ := w.heap.size) (base := w2.heap.size) (S := fun ys => ys.map (·.i) = List.range' i (j + 1 - i)) (Sp := fun pre => pre.map (·.i) = List.range' i pre.length ∧ pre.length ≤ j + 1 - i) (N := 200000) (w0 := w6) ?seq qE (zE _ _) (fun _ => rfl)
  (LB kind w w6.heap.size) (fun _ _ _ => False) (zMP qE) (fun _ _ _ _ _ hs _ _ => hs) hLB (fun _ _ h => h.2.2.2.2)
  (fun x => #[.int .i64 x.l.quote, .slice x.la x.l.lists.length x.lc, .int .i64 x.l.kind, .slice x.ca x.l.cells.length x.cc]) 47 ?act ?assign ?body ?done ?stop
 case seq =>
  intro l J Jx W hW hJ _ hY h0;have hzW := hW.size;exact zDV 5 l w2.heap.size w2.heap.size (.slice va s.lines.length vc) s i j S w W J Jx HVF.out.1 (HBW.out.trans (hW.mono HBW.out.size)) (zC _) qE (zX hW N2.out) HSI.out.1 HSI.out.2 hij hjl HVF.out.2.2.1 hJ hY h0
 case assign =>
  intro l pre x W K Bx hBx hI hK;unfold zAv linV;rw [zDU];simp only [qI, qX, qY]
  repeat (first | go_values | gi_guarded | gi_step | gi_upon)
  rw [← hBx];exact hK
 case body =>
  intro l pre x Bx W hI hBx hbx hlt;obtain ⟨t0, t1, t2, hb, hz⟩ := hI;obtain ⟨k, ln, la, lc, ca, cc, row, hL, hC⟩ := x;obtain ⟨ra, hra⟩ : ∃ r, (pre.all fun x => jV kind x.l) = r := ⟨_, rfl⟩;obtain ⟨rs, hrs⟩ : ∃ r, (pre.any fun x => jV kind x.l) = r := ⟨_, rfl⟩;have hAll : ((pre ++ [(⟨k, ln, la, lc, ca, cc, row, hL, hC⟩ : SelX w S s)]).all fun x => jV kind x.l) = (ra && jV kind ln) := by simp [← hra]
  have hAny : ((pre ++ [(⟨k, ln, la, lc, ca, cc, row, hL, hC⟩ : SelX w S s)]).any fun x => jV kind x.l) = (rs || jV kind ln) := by simp [← hrs]
  rw [hra] at t0;rw [hrs] at t1;have HC := zA (zHC kind ln la ca lc cc W w S hL hb);obtain ⟨r, hr⟩ : ∃ r, jV kind ln = r := ⟨_, rfl⟩;rw [hr] at HC hAll hAny;have HAA := zA (zB hAll hAny);obtain ⟨s0, s0f⟩ := blk t0;obtain ⟨s1, s1f⟩ := blk t1;obtain ⟨s2, s2f⟩ := blk t2;obtain ⟨sx, sxf⟩ := blk hbx;have HIN := zA (zB t0 (zB t1 (zB t2 (zB hb hz))));have hzW := hb.size;unfold linV at HC;clear t0 t1 t2 hb hAll hAny hbx hra hrs hr;simp only at s0 sx ⊢;cases ra <;> cases rs
  all_goals gi_wp2_with (gi_at_call 83; refine (callsIn_wide.2 HC.out).mono ?_; rintro e w7 ⟨rfl, hb7⟩; have HB7 := zA hb7; obtain ⟨y0, y0f⟩ := blk (zX hb7 HIN.out.1); obtain ⟨y1, y1f⟩ := blk (zX hb7 HIN.out.2.1); clear s0 s0f s1 s1f s2 s2f sx sxf)
  all_goals
   have hb7 := HB7.out;have hz7 := hb7.size;refine ⟨((uG hb7).trans ((KeepsOthers.setCell _ _ _).trans (KeepsOthers.setCell _ _ _))).from _, (Kp.of_below qE hb7).t ((Kp.setCell _ qE qE _).t (Kp.setCell _ qE qE _)), ?_, ?_, ?_, ((jH HIN.out.2.2.2.1 hb7).setCell yE _).setCell zEi _, by have := HIN.out.2.2.2.2; simp; omega⟩
   ·rw [HAA.out.1, qR, if_neg (by show ¬ w.heap.size + 1 + 1 + 1 = w.heap.size + 2; omega), qR, if_pos rfl, zX hb7 HIN.out.1]
    simp [jB]
   ·rw [HAA.out.2, qR, if_pos rfl, qR, if_neg zEf]
    have := zX hb7 HIN.out.2.1;simp [jB, this]
   ·rw [qR, if_neg (by show ¬ w.heap.size + 1 + 1 + 1 = w.heap.size + 1; omega), qR, if_neg zBl]
    exact zX hb7 HIN.out.2.2.1
 case done =>
  rintro D ys W hD hys ⟨t0, t1, t2, hb, hz⟩ hK;have hl : ∀ x : SelX w S s, kI s x.i = x.l := fun x => by unfold kI; rw [List.getD_eq_getElem?_getD, x.row]; rfl
  have hAll : (ys.all fun x => jV kind x.l) = ((List.range' i (j + 1 - i)).all fun k => jV kind (kI s k)) := by
   rw [← hys, List.all_map];refine congrArg (List.all ys) (funext fun x => ?_)
   show _ = jV kind (kI s x.i)
   rw [hl]
  have hAny : (ys.any fun x => jV kind x.l) = ((List.range' i (j + 1 - i)).any fun k => jV kind (kI s k)) := by
   rw [← hys, List.any_map];refine congrArg (List.any ys) (funext fun x => ?_)
   show _ = jV kind (kI s x.i)
   rw [hl]
  rw [hAll] at t0;rw [hAny] at t1;obtain ⟨ra, hra⟩ : ∃ r, ((List.range' i (j + 1 - i)).all fun k => jV kind (kI s k)) = r := ⟨_, rfl⟩;obtain ⟨rs, hrs⟩ : ∃ r, ((List.range' i (j + 1 - i)).any fun k => jV kind (kI s k)) = r := ⟨_, rfl⟩;rw [hra] at t0 HR;rw [hrs] at t1 HR;have HB9 := zA hb;have HK9 := zA hK;have HT := zA (zB t0 t1);obtain ⟨s0, s0f⟩ := blk t0;obtain ⟨s1, s1f⟩ := blk t1;clear t0 t1 t2 hb hK hAll hAny hra hrs
  gi_wp2_with fail
  gi_region
  gi_wp2_with fail
  have hBE : Below w.heap.size w (((W.setCell ⟨w.heap.size + 1 + 1, 0, none⟩ (.bool ra)).setCell ⟨w.heap.size + 1 + 1 + 1, 0, none⟩ (.bool rs)).drew) := ((HB9.out.setCell yE _).setCell zEi _).drew
  have hK2 : (((W.setCell ⟨w.heap.size + 1 + 1, 0, none⟩ (.bool ra)).setCell ⟨w.heap.size + 1 + 1 + 1, 0, none⟩ (.bool rs)).drew).heap[D]? = some (.deferred (some [])) := by
   rw [zDD, qR, if_neg (by show ¬ w.heap.size + 1 + 1 + 1 = D; omega), qR, if_neg (by show ¬ w.heap.size + 1 + 1 = D; omega)];exact HK9.out
  have r1 : ((W.setCell ⟨w.heap.size + 1 + 1, 0, none⟩ (.bool ra)).setCell ⟨w.heap.size + 1 + 1 + 1, 0, none⟩ (.bool rs)).cell? ⟨w.heap.size + 1 + 1, 0, none⟩ = some (.bool ra) := (kT (by show ¬ w.heap.size + 1 + 1 + 1 = w.heap.size + 1 + 1; omega)).trans (yV (s0 0));have r2 : ((W.setCell ⟨w.heap.size + 1 + 1, 0, none⟩ (.bool ra)).setCell ⟨w.heap.size + 1 + 1 + 1, 0, none⟩ (.bool rs)).cell? ⟨w.heap.size + 1 + 1 + 1, 0, none⟩ = some (.bool rs) := yV ((kT zEf).trans (s1 0))
  generalize ((W.setCell ⟨w.heap.size + 1 + 1, 0, none⟩ (.bool ra)).setCell ⟨w.heap.size + 1 + 1 + 1, 0, none⟩ (.bool rs)) = Y at *
  refine ⟨by simp, .inl ⟨_, _, rfl, run_takeDeferred hK2, ?_⟩⟩;refine ⟨_, zFw rfl _ _ ⟨w.heap.size + 1 + 1, 0, none⟩ ⟨w.heap.size + 1 + 1 + 1, 0, none⟩ ra rs rfl rfl ((World.cell?_of_block (World.putObj_heap_other (by show w.heap.size + 1 + 1 ≠ D; omega))).trans r1) ((World.cell?_of_block (World.putObj_heap_other (by show w.heap.size + 1 + 1 + 1 ≠ D; omega))).trans r2), ?_⟩;rw [HR.out];exact ⟨rfl, hBE.trans (belowK_b (w := w) (zC _) _ D _ _ qE hK2 rfl rfl)⟩
 case stop =>
  rintro D c pre W _ _ h _;exact h.elim
end Go.Proofs.YtjgeadoncanheaaGreatDoor
