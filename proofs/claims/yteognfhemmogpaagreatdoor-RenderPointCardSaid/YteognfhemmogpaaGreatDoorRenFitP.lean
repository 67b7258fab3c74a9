/- Rows of nodes of one's own, in a block of one's own, whose elements lie in given blocks: for the reference's Put, grow. -/
import Derived.Test.YteognfhemmogpaaGreatDoorRfShareP
import Derived.Test.YteognfhemmogpaaGreatDoorRenBaseP
import Derived.Test.YteognfhemmogpaaGreatDoorRenPartsP
set_option linter.unusedVariables false
set_option linter.unusedSimpArgs false
namespace Go.Proofs.Qw
open Go.RowKit Go.Proofs.YteognfhemmogpaaGreatDoor
def rdIn (S0 : Nat → Prop) (h : Nat) : Rd Nod := fun w S vs x => rdNod true h w (fun b => S b ∧ S0 b) vs x
theorem rdIn_stable (S0 : Nat → Prop) (h : Nat) : Stable (rdIn S0 h) := ⟨fun _ _ _ _ _ _ hx hk hS => (rdNod_stable true h).go _ _ _ _ _ _ hx ⟨hk.size, fun b hb hz => hk.block b hb.1 hz⟩ (fun b hb hz => ⟨hS b hb.1 hz, hb.2⟩)⟩
theorem eltIn (S0 : Nat → Prop) (h : Nat) : EltX 4 (rdIn S0 h) :=
 ⟨by decide, fun _ _ _ _ hx => (eltNod h).len _ _ _ _ hx, fun _ _ _ _ hx => (eltNod h).ones _ _ _ _ hx, rdIn_stable S0 h⟩
def Fresh (m : Nat) (v : Value) : Prop := ∀ b, v.ownBlock = some b → m ≤ b
theorem Fresh.app {m : Nat} {v v' : Value} {w : World} (h : Fresh m v) (hm : m ≤ w.heap.size) (ho : v'.ownBlock = v.ownBlock ∨ v'.ownBlock = some w.heap.size) : Fresh m v' := fun b hb => by
 rcases ho with e | e
 ·exact h b (e ▸ hb)
 ·rw [e] at hb
  cases hb
  exact hm
theorem Fresh.below {m : Nat} {v : Value} {w w' : World} (h : Fresh m v) (hm : m ≤ w.heap.size) (hg : w.grownBy w' v.ownBlock) : Below m w w' :=
 ⟨hg.os, hg.tape, hg.output, hg.size, fun k hk => hg.block k (by omega) (fun e => by have := h k e.symm; omega)⟩
theorem rowBlk_own {v : Value} {b : Nat} (h : rowBlk v = some b) : v.ownBlock = some b := by
 unfold rowBlk at h
 split at h
 ·exact h
 ·cases h
theorem RwX.imp {α : Type} {t : TypeId} {k : Nat} {R R' : Rd α} {w : World} {n : Nat} {v : Value} {xs : List α} (hR : ∀ S vs x, R w S vs x → R' w S vs x) (h : RwX t k R w n v xs) : RwX t k R' w n v xs := by
 obtain ⟨a, c, h1, h2, h3, h | ⟨b, o, rfl, hb, hz, hf, he⟩⟩ := h
 ·exact ⟨a, c, h1, h2, h3, .inl h⟩
 ·refine ⟨_, c, h1, h2, h3, .inr ⟨b, o, rfl, hb, hz, hf, fun i x hx => ?_⟩⟩
  obtain ⟨vs, g1, g2, g3⟩ := he i x hx
  exact ⟨vs, g1, hR _ _ _ g2, g3⟩
theorem rdIn_weak {S0 S1 : Nat → Prop} {h : Nat} (hS : ∀ b, S0 b → S1 b) {w : World} {S : Nat → Prop} {vs : List Value} {x : Nod} (hx : rdIn S0 h w S vs x) : rdIn S1 h w S vs x := (rdNod_stable true h).go _ _ _ _ _ _ hx (Keeps.refl _ _) (fun b hb _ => ⟨hb.1, hS b hb.2⟩)
theorem fresh_row {S0 : Nat → Prop} {h m : Nat} {w : World} {v : Value} {xs : List Nod} (hr : RwX 35 4 (rdIn S0 h) w 0 v xs) (hf : Fresh m v) : NodsR true h w (fun b => S0 b ∨ m ≤ b) v xs := by
 obtain ⟨a, c, h1, h2, h3, ⟨h, h0⟩ | ⟨b, o, rfl, hb, hz, hff, he⟩⟩ := hr
 ·exact ⟨a, c, h1, h2, h3, .inl ⟨h, fun _ => h0⟩⟩
 ·subst h1
  exact ⟨_, c, rfl, h2, h3, .inr ⟨b, o, rfl, .inr (hf b rfl), hz, fun _ => hff, fun i x hx => by
   obtain ⟨vs, g1, g2, g3⟩ := he i x hx
   exact ⟨vs, g1, (rdNod_stable true _).go _ _ _ _ _ _ g2 (Keeps.refl _ _) (fun _ h _ => .inl h.2), g3⟩⟩⟩
theorem fresh_news {S0 : Nat → Prop} {h m : Nat} {w : World} {v : Value} {news : List Value} {ys : List Nod} (hf : Fresh m v) (hS : ∀ b, S0 b → b < m) (hn : NewsR 4 (rdNod true h) w S0 news ys) : NewsX 4 (rdIn S0 h) w 0 v news ys := fun i y hy => by
 obtain ⟨vs, h1, h2, h3⟩ := hn i y hy
 exact ⟨vs, h1, (rdNod_stable true h).go _ _ _ _ _ _ h2 (Keeps.refl _ _) (fun b hb _ => ⟨⟨Nat.zero_le _, fun e => by have h1 := hf b (rowBlk_own e); have h2 := hS b hb; omega⟩, hb⟩), h3⟩
theorem fresh_empty (m b o : Nat) (h : m ≤ b) : Fresh m (.slice (some ⟨b, o, none⟩) 0 0) := fun d hd => by cases hd; exact h
theorem RwX.empty {α : Type} (t : TypeId) (k : Nat) (R : Rd α) (w : World) (n : Nat) (a : Option Addr) : RwX t k R w n (.slice a 0 0) [] := ⟨a, 0, rfl, Nat.le_refl _, by decide, .inl ⟨rfl, rfl⟩⟩
theorem wpList_app_nods (w : World) {ops : Array Oper} {rest : List Oper} {o : Oper} {a : Act} {Q : Exit → Act → World → Prop} (hgd : o.guard = none) (s x : Operand)
  (ho : o.op = .call { callee := .builtin .append, args := #[s, x], argTypes := #[33, 33] }) (S0 : Nat → Prop) (h m : Nat) (v y : Value) {xs ys : List Nod} (hs : a.eval s = v) (hx : a.eval x = y)
  (h1 : RwX 35 4 (rdIn S0 h) w 0 v xs) (hf : Fresh m v) (hm : m ≤ w.heap.size) (hS : ∀ b, S0 b → b < m) (hy : NodsR true h w S0 y ys) (hlen : xs.length + ys.length ≤ 100000000)
  (H : ∀ v' w', RwX 35 4 (rdIn S0 h) w' 0 v' (xs ++ ys) → Fresh m v' → Below m w w' → wpList Tryz.prog ops Q rest (a.put o.dst v') w') :
  wpList Tryz.prog ops Q (o :: rest) a w := by
 obtain ⟨news, n1, n2⟩ := SliceR.src (P := Tryz.prog) (st := 33) rowNod (eltNod h).pos (eltNod h).ones hy
 exact wpList_append_X w hgd s x _ _ ho rowNod (eltIn S0 h) 0 v y hs hx h1 (Nat.zero_le _) n1 (fresh_news hf hS n2) hlen fun v' w' r1 _ r3 r4 => H v' w' r1 (hf.app hm r4) (hf.below hm r3)
theorem step_app_nods {w : World} {ops : Array Oper} {o : Oper} {a : Act} {K : Act → World → Prop} {Q : Exit → Act → World → Prop} {E : Prop} (hgd : o.guard = none) (s x : Operand)
  (ho : o.op = .call { callee := .builtin .append, args := #[s, x], argTypes := #[33, 33] }) (S0 : Nat → Prop) (h m : Nat) (v y : Value) {xs ys : List Nod} (hs : a.eval s = v) (hx : a.eval x = y)
  (h1 : RwX 35 4 (rdIn S0 h) w 0 v xs) (hf : Fresh m v) (hm : m ≤ w.heap.size) (hS : ∀ b, S0 b → b < m) (hy : NodsR true h w S0 y ys) (hlen : xs.length + ys.length ≤ 100000000)
  (H : ∀ v' w', RwX 35 4 (rdIn S0 h) w' 0 v' (xs ++ ys) → Fresh m v' → Below m w w' → w.grownBy w' v.ownBlock → K (a.put o.dst v') w') :
  if Region.wanted o (yielded ops a.tmps) = true then Oper.wp Tryz.prog o a w K Q else E := by
 obtain ⟨news, n1, n2⟩ := SliceR.src (P := Tryz.prog) (st := 33) rowNod (eltNod h).pos (eltNod h).ones hy
 exact step_append_X hgd s x _ _ ho rowNod (eltIn S0 h) 0 v y hs hx h1 (Nat.zero_le _) n1 (fresh_news hf hS n2) hlen fun v' w' r1 _ r3 r4 => H v' w' r1 (hf.app hm r4) (hf.below hm r3) r3
theorem step_app_node {w : World} {ops : Array Oper} {o : Oper} {a : Act} {K : Act → World → Prop} {Q : Exit → Act → World → Prop} {E : Prop} (hgd : o.guard = none) (s x : Operand)
  (ho : o.op = .call { callee := .builtin .append, args := #[s, x], argTypes := #[33, 33] }) (S0 : Nat → Prop) (h m : Nat) (v : Value) {xs : List Nod} {z : Nod} {B c : Nat} {va vk : Value} (hs : a.eval s = v) (hx : a.eval x = .slice (some ⟨B, 0, none⟩) 1 c)
  (h1 : RwX 35 4 (rdIn S0 (h + 1)) w 0 v xs) (hf : Fresh m v) (hm : m ≤ w.heap.size) (hS : ∀ b, S0 b → b < m) (hB : w.heap[B]? = some (.cells #[.int .i64 z.tag, va, .string ⟨z.text.toArray⟩, vk] 35)) (ha : AttsR true w S0 va z.attrs) (hk : NodsR true h w S0 vk z.kids) (hlen : xs.length + 1 ≤ 100000000)
  (H : ∀ v' w', RwX 35 4 (rdIn S0 (h + 1)) w' 0 v' (xs ++ [z]) → Fresh m v' → Below m w w' → K (a.put o.dst v') w') :
  if Region.wanted o (yielded ops a.tmps) = true then Oper.wp Tryz.prog o a w K Q else E := by
 have hn : NewsR 4 (rdNod true (h + 1)) w S0 [.int .i64 z.tag, va, .string ⟨z.text.toArray⟩, vk] [z] := NewsR.one rfl ⟨_, _, rfl, ha, hk⟩
 obtain ⟨_, _, rfl⟩ := ha.slice
 obtain ⟨_, _, rfl⟩ := hk.slice
 exact step_append_X (ys := [z]) hgd s x _ _ ho rowNod (eltIn S0 (h + 1)) 0 v _ hs hx h1 (Nat.zero_le _) (src_node hB (oneV_node z _ _ _ _ _ _) c) (fresh_news hf hS hn) hlen fun v' w' r1 _ r3 r4 => H v' w' r1 (hf.app hm r4) (hf.below hm r3)
theorem fresh_last {S0 : Nat → Prop} {h m : Nat} {w : World} {v : Value} {xs : List Nod} {z : Nod} (hr : RwX 35 4 (rdIn S0 h) w 0 v (xs ++ [z])) (hf : Fresh m v) :
  ∃ b o c aa ac ka kc h', h = h' + 1 ∧ v = .slice (some ⟨b, o, none⟩) (xs.length + 1) c ∧ m ≤ b ∧ b < w.heap.size ∧ (∀ k, w.frozen? ⟨b, k, none⟩ = false) ∧
   w.cell? ⟨b, o + xs.length * 4, none⟩ = some (.int .i64 z.tag) ∧ w.cell? ⟨b, o + xs.length * 4 + 1, none⟩ = some (.slice aa z.attrs.length ac) ∧ w.cell? ⟨b, o + xs.length * 4 + 2, none⟩ = some (.string ⟨z.text.toArray⟩) ∧ w.cell? ⟨b, o + xs.length * 4 + 3, none⟩ = some (.slice ka z.kids.length kc) ∧
   AttsR true w S0 (.slice aa z.attrs.length ac) z.attrs ∧ NodsR true h' w S0 (.slice ka z.kids.length kc) z.kids ∧ c ≤ maxLen := by
 obtain ⟨a, c, e, h2, h3, ⟨h0, _⟩ | ⟨b, o, rfl, hb, hz, ⟨cs, f1, f2⟩, he⟩⟩ := hr
 ·exact absurd h0 (by simp)
 obtain ⟨vs, g1, g2, g3⟩ := he xs.length z (by simp)
 subst e
 have g2 : rdNod true h w (fun b' => ((0 ≤ b' ∧ b' ≠ b) ∧ S0 b')) vs z := g2
 match h, g2 with
 | h' + 1, ⟨x, y, ev, r1, r2⟩ =>
  subst ev
  have r1 := r1.stable (rdOf_stable _) (Keeps.refl _ _) (S' := S0) (fun _ h _ => h.2)
  have r2 := r2.stable (rdNod_stable _ _) (Keeps.refl _ _) (S' := S0) (fun _ h _ => h.2)
  obtain ⟨aa, ac, rfl⟩ := r1.slice
  obtain ⟨ka, kc, rfl⟩ := r2.slice
  exact ⟨b, o, c, aa, ac, ka, kc, h', rfl, by simp, hf b rfl, hz, fun k => frozen_of_heap f1, g3 0 _ rfl, g3 1 _ rfl, g3 2 _ rfl, g3 3 _ rfl, r1, r2, h3⟩
theorem fresh_put {S0 S1 : Nat → Prop} {h : Nat} {w : World} {b o c : Nat} {xs : List Nod} {z x : Nod} {va vk : Value} (hr : RwX 35 4 (rdIn S0 (h + 1)) w 0 (.slice (some ⟨b, o, none⟩) (xs.length + 1) c) (xs ++ [z])) (hS : ∀ d, S0 d → S1 d) (hb : ¬ S1 b) (ha : AttsR true w S1 va x.attrs) (hk : NodsR true h w S1 vk x.kids) :
  RwX 35 4 (rdIn S1 (h + 1)) ((((w.setCell ⟨b, o + xs.length * 4, none⟩ (.int .i64 x.tag)).setCell ⟨b, o + xs.length * 4 + 1, none⟩ va).setCell ⟨b, o + xs.length * 4 + 2, none⟩ (.string ⟨x.text.toArray⟩)).setCell ⟨b, o + xs.length * 4 + 3, none⟩ vk) 0 (.slice (some ⟨b, o, none⟩) (xs.length + 1) c) (xs ++ [x]) := by
 have hx : rdIn S1 (h + 1) w (fun b' => 0 ≤ b' ∧ b' ≠ b) [.int .i64 x.tag, va, .string ⟨x.text.toArray⟩, vk] x := ⟨va, vk, rfl, ha.stable (rdOf_stable _) (Keeps.refl _ _) (fun d hd _ => ⟨⟨Nat.zero_le _, fun e => hb (e ▸ hd)⟩, hd⟩), hk.stable (rdNod_stable _ _) (Keeps.refl _ _) (fun d hd _ => ⟨⟨Nat.zero_le _, fun e => hb (e ▸ hd)⟩, hd⟩)⟩
 exact (RwX.putLast (eltIn S1 (h + 1)) (hr.imp fun _ _ _ g => rdIn_weak hS g) hx).1
end Go.Proofs.Qw
namespace Go.Proofs.Qw
open Go.RowKit Go.Proofs.YteognfhemmogpaaGreatDoor
def Spine : Nat → List Nod → Prop
 | 0, _ => True
 | n + 1, l => ∃ xs z, l = xs ++ [z] ∧ Spine n z.kids
theorem counts_kids_le {xs : List Nod} {z : Nod} {B : Nat} (h : Nod.counts (xs ++ [z]) ≤ B) : Nod.counts z.kids ≤ B ∧ xs.length + 1 ≤ B := by
 have e : z.count = 1 + Nod.counts z.kids := by cases z; rw [Nod.count]; rfl
 have h1 : Nod.counts [z] = z.count := by rw [Nod.counts, Nod.counts]; rfl
 have h2 : ∀ l : List Nod, l.length ≤ Nod.counts l := by
  intro l
  induction l with
  | nil => simp
  | cons a l ih => rw [List.length_cons, Nod.counts]; have : 1 ≤ a.count := by cases a; rw [Nod.count]; omega
                   omega
 rw [Nod.counts_append, h1] at h
 have := h2 xs
 omega
theorem put_last (xs : List Nod) (z : Nod) (W : List Wr) (leaf : Nod) (s : Nat) : putW (xs ++ [z]) W leaf (s + 1) = xs ++ [.mk z.tag z.attrs z.text (putW z.kids W.tail leaf s)] := by
 rw [putW, lastN_append _ _ (by simp), lastN_one]
end Go.Proofs.Qw
namespace Go.Proofs.YteognfhemmogpaaGreatDoor
open Go.RowKit
open Go.Proofs.Qw
attribute [local go_sem ↓] Go.wp_at_zero Go.wp_at_succ
def PutAt (s : Nat) : Prop := ∀ (H hl : Nat) (nv av la lk : Value) (l : List Nod) (W : List Wr) (leaf : Nod) (w : World) (S : Nat → Prop), NodsR true H w S nv l → NodsR true 1 w S av (W.map wrN) → AttsR true w S la leaf.attrs → NodsR true hl w S lk leaf.kids → (∀ b, S b → b < w.heap.size) →
  hl + W.length + 1 ≤ H → s ≤ W.length → Spine s l → Nod.counts l ≤ 1000000 → W.length ≤ 1000 →
  Calls Tryz.prog 52 #[nv, av, nodV leaf la lk, .int .i64 s] w fun e w' => ∃ v', e = .returned v' ∧ NodsR true H w' (fun b => S b ∨ w.heap.size ≤ b) v' (putW l W leaf s) ∧ Below w.heap.size w w'
set_option maxRecDepth 100000 in
set_option maxHeartbeats 4000000 in
theorem put_deep (s : Nat) (ih : PutAt s) : PutAt (s + 1) := by
 intro H hl nv av la lk l W leaf w S hN hA hLa hLk hS hH hsW hsp hcn hWl
 obtain ⟨xs, z, rfl, hsp⟩ := hsp
 obtain ⟨hcz, hxl⟩ := counts_kids_le hcn
 obtain ⟨y, Wt, hWc⟩ : ∃ y Wt, W = y :: Wt := by
  cases W with
  | nil => simp at hsW
  | cons y Wt => exact ⟨y, Wt, rfl⟩
 subst hWc
 rw [put_last, List.tail_cons]
 obtain ⟨G, hG⟩ : ∃ G, putW z.kids Wt leaf s = G := ⟨_, rfl⟩
 rw [hG]
 have HGl := Lib.hid hG
 clear hG
 obtain ⟨na, nc, rfl⟩ := hN.slice
 obtain ⟨aa, ac, rfl, hac, ham, hax⟩ := SliceR.shape hA
 obtain ⟨ab, ao, rfl⟩ : ∃ ab ao, aa = some ⟨ab, ao, none⟩ := by
  obtain ⟨ab, ao, _, e, _⟩ := hax 0 (wrN y) rfl
  exact ⟨ab, ao, e⟩
 clear hax
 obtain ⟨lla, llc, rfl⟩ := hLa.slice
 obtain ⟨lka, lkc, rfl⟩ := hLk.slice
 simp only [List.length_map, List.length_cons] at hA hac hsW hWl hH
 have HIH := Lib.hid ih
 have HSP := Lib.hid hsp
 have HN := Lib.hid hN
 have HPT : Hid (NodsR true 1 w S (.slice (if ac = 1 then some ⟨ab, ao, none⟩ else some ⟨ab, ao + 4, none⟩) Wt.length (ac - 1)) (Wt.map wrN)) := Lib.hid (by
  have h := SliceR.part hA (i := 1) (j := Wt.length + 1) (m := ac) (by omega) (by simp) hac (Nat.le_refl _)
  have e : (((y :: Wt).map wrN).drop 1).take (Wt.length + 1 - 1) = Wt.map wrN := by rw [List.map_cons, List.drop_succ_cons, List.drop_zero]; exact List.take_of_length_le (by simp)
  rw [e] at h
  have e2 : sliced (some ⟨ab, ao, none⟩) 1 (Wt.length + 1) ac 4 = .slice (if ac = 1 then some ⟨ab, ao, none⟩ else some ⟨ab, ao + 4, none⟩) Wt.length (ac - 1) := by
   unfold sliced
   split <;> simp [Addr.add]
  rw [e2] at h
  exact h)
 obtain ⟨sa, hsa⟩ : ∃ sa : Option Addr, (if ac = 1 then some ⟨ab, ao, none⟩ else some ⟨ab, ao + 4, none⟩) = sa := ⟨_, rfl⟩
 rw [hsa] at HPT
 have HSA := Lib.hid hsa
 clear hsa
 have HLa := Lib.hid hLa
 have HLk := Lib.hid hLk
 have HSb := Lib.hid hS
 obtain ⟨W1, hW1⟩ : ∃ W1, w.alloc (.cells #[.int .i64 leaf.tag, .slice lla leaf.attrs.length llc, .string ⟨leaf.text.toArray⟩, .slice lka leaf.kids.length lkc] 35) = W1 := ⟨_, rfl⟩
 have hb1 : Below w.heap.size w W1 := hW1 ▸ (Below.refl _ _).alloc (Nat.le_refl _) _
 have HB1 : Hid (W1.heap[w.heap.size]? = some (.cells #[.int .i64 leaf.tag, .slice lla leaf.attrs.length llc, .string ⟨leaf.text.toArray⟩, .slice lka leaf.kids.length lkc] 35)) := Lib.hid (hW1 ▸ heap_new _ _ rfl)
 have hz1 : w.heap.size < W1.heap.size := by rw [← hW1]; simp
 have HBL := Lib.hid hb1
 have hd0 : decide ((0 : Int) < ((s + 1 : Nat) : Int)) = true := decide_eq_true (by omega)
 have hd1 : decide ((0 : Int) < (s : Int) + 1) = true := decide_eq_true (by omega)
 have hws : IntKind.i64.wrap ((s : Int) + 1 - 1) = (s : Int) := by rw [IntKind.wrap_i64]; omega
 have hwl : IntKind.i64.wrap ((xs.length : Int) + 1 - 1) = (xs.length : Int) := by rw [IntKind.wrap_i64]; omega
 have i0 : (0 : Int) ≤ (xs.length : Int) := Int.natCast_nonneg _
 have i1 : (xs.length : Int) < (xs.length : Int) + 1 := by omega
 have hws2 : IntKind.i64.wrap (s : Int) = (s : Int) := by rw [IntKind.wrap_i64]; omega
 have i2 : (1 : Int) ≤ (Wt.length : Int) + 1 := by omega
 unfold maxLen at ham
 clear ih hN hA hLa hLk hS hb1 hsp hcn
 unfold nodV
 go_enter Tryz.func52, Tryz.ntmps52
 go_upto_region 4 with (at_builtin; go_must (refine wpList_app_nods _ rfl _ _ rfl S H W1.heap.size (.slice (some ⟨W1.heap.size, 0, none⟩) 0 0) (.slice na (xs ++ [z]).length nc) (xs := []) (ys := xs ++ [z]) rfl rfl (RwX.empty _ _ _ _ _ _) (fresh_empty _ _ _ (Nat.le_refl _)) (by simp) (fun b hb => Nat.lt_trans (HSb.out b hb) hz1) (HN.out.below (rdNod_stable _ _) (HBL.out.alloc HBL.out.size _)) (by simp; omega) ?_); intro v8 w8 hR8 hF8 hB8; rw [List.nil_append] at hR8; obtain ⟨b, o, c, za, zac, zk, zkc, h', hHe, hve, hmb, hbz, hfr, d0, d1, d2, d3, hza, hzk, hcm⟩ := fresh_last hR8 hF8; subst hve; subst hHe; have HR8 := Lib.hid hR8; have HF8 := Lib.hid hF8; have HZA := Lib.hid hza; have HZK := Lib.hid hzk; have hx8 := Lib.hid (((Below.refl W1.heap.size W1).alloc (Nat.le_refl _) _).trans hB8); have hbb8 := Lib.hid (below_from HBL.out hx8.out); have hP8 := Lib.hid (heap_below hx8.out HB1.out); clear hR8 hF8 hza hzk hB8)
 obtain ⟨W9, hW9⟩ : ∃ W9, w8.alloc (.cells #[.int .i64 z.tag, .slice za z.attrs.length zac, .string ⟨z.text.toArray⟩, .slice zk z.kids.length zkc] 35) = W9 := ⟨_, rfl⟩
 rw [hW9]
 have hb89 : Below w8.heap.size w8 W9 := hW9 ▸ (Below.refl _ _).alloc (Nat.le_refl _) _
 have hL9 : W9.heap[w8.heap.size]? = some (.cells #[.int .i64 z.tag, .slice za z.attrs.length zac, .string ⟨z.text.toArray⟩, .slice zk z.kids.length zkc] 35) := hW9 ▸ heap_new _ _ rfl
 have hz89 : w8.heap.size < W9.heap.size := by rw [← hW9]; simp
 have HB89 := Lib.hid hb89
 have HL9 := Lib.hid hL9
 have hz08 : w.heap.size < w8.heap.size := Nat.lt_of_lt_of_le hz1 hx8.out.size
 have hP9 : W9.heap[w.heap.size]? = some (.cells #[.int .i64 leaf.tag, .slice lla leaf.attrs.length llc, .string ⟨leaf.text.toArray⟩, .slice lka leaf.kids.length lkc] 35) := (hb89.block _ hz08).trans hP8.out
 have HA9 : Hid (∀ X, Below W9.heap.size W9 X → X.cell? ⟨w.heap.size, 0, none⟩ = some (.int .i64 leaf.tag) ∧ X.cell? ⟨w.heap.size, 1, none⟩ = some (.slice lla leaf.attrs.length llc) ∧ X.cell? ⟨w.heap.size, 2, none⟩ = some (.string ⟨leaf.text.toArray⟩) ∧ X.cell? ⟨w.heap.size, 3, none⟩ = some (.slice lka leaf.kids.length lkc)) := Lib.hid fun X hX => ⟨by rw [(blk (heap_below hX hP9)).1 0]; rfl, by rw [(blk (heap_below hX hP9)).1 1]; rfl, by rw [(blk (heap_below hX hP9)).1 2]; rfl, by rw [(blk (heap_below hX hP9)).1 3]; rfl⟩
 have HB9 : Hid (∀ X, Below W9.heap.size W9 X → X.cell? ⟨w8.heap.size, 3, none⟩ = some (.slice zk z.kids.length zkc)) := Lib.hid fun X hX => by rw [(blk (heap_below hX hL9)).1 3]; rfl
 have HC : Hid (∀ X, Below W9.heap.size W9 X → Calls Tryz.prog 52 #[.slice zk z.kids.length zkc, .slice sa Wt.length (ac - 1), .agg #[.int .i64 leaf.tag, .slice lla leaf.attrs.length llc, .string ⟨leaf.text.toArray⟩, .slice lka leaf.kids.length lkc], .int .i64 s] X fun e X' => ∃ ra rc, e = .returned (.slice ra G.length rc) ∧ NodsR true h' X' (fun b => S b ∨ X.heap.size ≤ b) (.slice ra G.length rc) G ∧ Below X.heap.size X X') := Lib.hid fun X hX => by
  have hwX : Below w.heap.size w X := below_from hbb8.out (below_from HB89.out hX)
  have h8X : Below w8.heap.size w8 X := below_from HB89.out hX
  refine (HIH.out h' hl _ _ (.slice lla leaf.attrs.length llc) (.slice lka leaf.kids.length lkc) z.kids Wt leaf X S (HZK.out.below (rdNod_stable _ _) h8X) (HPT.out.below (rdNod_stable _ _) hwX) (HLa.out.below (rdOf_stable _) hwX) (HLk.out.below (rdNod_stable _ _) hwX) (fun b hb => Nat.lt_of_lt_of_le (HSb.out b hb) hwX.size) (by omega) (by omega) HSP.out hcz (by omega)).mono ?_
  rintro e X' ⟨v', h1, h2, h3⟩
  rw [HGl.out] at h2
  obtain ⟨ra, rc, rfl⟩ := h2.slice
  exact ⟨ra, rc, h1, h2, h3⟩
 have hd9 : Below W9.heap.size W9 W9.drew := (Below.refl _ _).drew
 have HP9 := Lib.hid hP9
 clear hW9 hL9 hP9 hb89
 refine wp_region_T (fun X => X.cell? ⟨w.heap.size, 0, none⟩ = some (.int .i64 leaf.tag) ∧ X.cell? ⟨w.heap.size, 1, none⟩ = some (.slice lla leaf.attrs.length llc) ∧ X.cell? ⟨w.heap.size, 2, none⟩ = some (.string ⟨leaf.text.toArray⟩) ∧ X.cell? ⟨w.heap.size, 3, none⟩ = some (.slice lka leaf.kids.length lkc)) (fun X => X.cell? ⟨w8.heap.size, 3, none⟩ = some (.slice zk z.kids.length zkc)) 9 (by kernel_rfl) ?_
 refine anyT_take (i := 0) (v := ?_) (by simp only [qA, qS, qZ]; rfl) (by kernel_rfl) (by kernel_rfl) (by kernel_rfl) (by kernel_rfl) (fun _ _ _ h => h) (Or.inl ⟨by rfl, ?_⟩) ⟨HA9.out _ hd9, HB9.out _ hd9⟩ ?_
 rotate_left 1
 ·intro w hSw; (try dsimp only at hSw); go_simp; (first | done | with_reducible rfl)
 try simp only [Act.put, qI, qX, qY]
 refine anyT_take (i := 1) (v := ?_) (by simp only [qA, qS, qZ]; rfl) (by kernel_rfl) (by kernel_rfl) (by kernel_rfl) (by kernel_rfl) (fun _ _ _ h => h) (Or.inl ⟨by rfl, ?_⟩) ⟨HA9.out _ hd9, HB9.out _ hd9⟩ ?_
 rotate_left 1
 ·intro w hSw; (try dsimp only at hSw); go_simp; (first | done | with_reducible rfl)
 try simp only [Act.put, qI, qX, qY]
 refine anyT_take (i := 2) (v := ?_) (by simp only [qA, qS, qZ]; rfl) (by kernel_rfl) (by kernel_rfl) (by kernel_rfl) (by kernel_rfl) (fun _ _ _ h => h) (Or.inl ⟨by rfl, ?_⟩) ⟨HA9.out _ hd9, HB9.out _ hd9⟩ ?_
 rotate_left 1
 ·intro w hSw; (try dsimp only at hSw); go_simp; (first | done | with_reducible rfl)
 try simp only [Act.put, qI, qX, qY]
 refine anyT_take (i := 4) (v := ?_) (by simp only [qA, qS, qZ]; rfl) (by kernel_rfl) (by kernel_rfl) (by kernel_rfl) (by kernel_rfl) (fun _ _ _ h => h) (Or.inl ⟨by rfl, ?_⟩) ⟨HA9.out _ hd9, HB9.out _ hd9⟩ ?_
 rotate_left 1
 ·intro w hSw; (try dsimp only at hSw); go_simp; (first | done | with_reducible rfl)
 try simp only [Act.put, qI, qX, qY]
 refine anyT_take (i := 5) (v := ?_) (by simp only [qA, qS, qZ]; rfl) (by kernel_rfl) (by kernel_rfl) (by kernel_rfl) (by kernel_rfl) (fun _ _ _ h => h) (Or.inl ⟨by rfl, ?_⟩) ⟨HA9.out _ hd9, HB9.out _ hd9⟩ ?_
 rotate_left 1
 ·intro w hSw; (try dsimp only at hSw); go_simp; (first | done | with_reducible rfl)
 try simp only [Act.put, qI, qX, qY]
 refine anyT_take (i := 6) (v := ?_) (by simp only [qA, qS, qZ]; rfl) (by kernel_rfl) (by kernel_rfl) (by kernel_rfl) (by kernel_rfl) (fun _ _ _ h => h) (Or.inl ⟨by rfl, ?_⟩) ⟨HA9.out _ hd9, HB9.out _ hd9⟩ ?_
 rotate_left 1
 ·intro w hSw; (try dsimp only at hSw); go_simp; (first | done | with_reducible rfl)
 try simp only [Act.put, qI, qX, qY]
 refine anyT_ready (rs := [3]) (by kernel_rfl) (by simp) ?_
 refine AllReadyT.cons (by simp only [qA, qS, qZ]; rfl) (fun K hK => ?_) AllReadyT.nil
 go_simp
 rw [HSA.out]
 refine hK.out _ _ (HA9.out _ hd9) (Or.inr (HB9.out _ hd9)) ?_
 clear hK K
 try simp only [Act.put, qI, qX, qY]
 refine anyT_ready (rs := [7]) (by kernel_rfl) (by simp) ?_
 refine AllReadyT.cons (by simp only [qA, qS, qZ]; rfl) (fun K hK => ?_) AllReadyT.nil
 go_simp
 refine (HC.out _ hd9).mono ?_
 rintro e w10 ⟨ra, rc, rfl, hr10, hb10⟩
 have HR10 := Lib.hid hr10
 have hx10 : Below W9.heap.size W9 w10 := below_from hd9 hb10
 have HX10 := Lib.hid hx10
 clear hr10 hb10
 refine hK.out _ _ (HA9.out _ hx10) (Or.inr (HB9.out _ hx10)) ?_
 clear hK K
 try simp only [Act.put, qI, qX, qY]
 refine anyT_takeA (i := 8) (v := ?_) (by simp only [qA, qS, qZ]; rfl) (by kernel_rfl) (by kernel_rfl) (by kernel_rfl) (by kernel_rfl) (fun _ _ _ h => h) (Or.inl ⟨by rfl, ?_⟩) (HA9.out _ hx10) (Or.inr (HB9.out _ hx10)) ?_
 rotate_left 1
 ·intro w hSw; (try dsimp only at hSw); go_simp; (first | done | with_reducible rfl)
 try simp only [Act.put, qI, qX, qY]
 have hL10 := Lib.hid (heap_below hx10 HL9.out)
 obtain ⟨q1, g1⟩ := blk hL10.out
 refine anyT_ready (rs := [9]) (by kernel_rfl) (by simp) ?_
 refine AllReadyT.cons (by simp only [qA, qS, qZ]; rfl) (fun K hK => ?_) AllReadyT.nil
 go_simp
 have hP11 : (w10.setCell ⟨w8.heap.size, 3, none⟩ (.slice ra G.length rc)).heap[w.heap.size]? = some (.cells #[.int .i64 leaf.tag, .slice lla leaf.attrs.length llc, .string ⟨leaf.text.toArray⟩, .slice lka leaf.kids.length lkc] 35) := by
  rw [heap_set, if_neg (by omega)]
  exact heap_below hx10 HP9.out
 refine hK.out _ _ ⟨by rw [(blk hP11).1 0]; rfl, by rw [(blk hP11).1 1]; rfl, by rw [(blk hP11).1 2]; rfl, by rw [(blk hP11).1 3]; rfl⟩ (Or.inl (by rfl)) ?_
 clear hK K hP11
 refine anyT_done (by kernel_rfl) ?_ _
 refine NoPanic.normal ?_
 obtain ⟨W11, hW11⟩ : ∃ W11, w10.setCell ⟨w8.heap.size, 3, none⟩ (.slice ra G.length rc) = W11 := ⟨_, rfl⟩
 rw [hW11]
 have hL11 : W11.heap[w8.heap.size]? = some (.cells #[.int .i64 z.tag, .slice za z.attrs.length zac, .string ⟨z.text.toArray⟩, .slice ra G.length rc] 35) := by
  rw [← hW11, heap_set, if_pos rfl, hL10.out]
  rfl
 have hx811 : Below w8.heap.size w8 W11 := by
  rw [← hW11]
  exact (below_from HB89.out hx10).setCell (Nat.le_refl _) _
 have hK11 : Keeps (fun d => d ≠ w8.heap.size) w10 W11 := by
  rw [← hW11]
  exact (Keeps.refl _ _).set (by simp) _
 have hz11 : w8.heap.size < W11.heap.size := (Array.getElem?_eq_some_iff.1 hL11).1
 obtain ⟨p5, f5⟩ := blk hL11
 have e0 := (hx811.cell (p := ⟨b, o + xs.length * 4, none⟩) hbz).trans d0
 have e1 := (hx811.cell (p := ⟨b, o + xs.length * 4 + 1, none⟩) hbz).trans d1
 have e2 := (hx811.cell (p := ⟨b, o + xs.length * 4 + 2, none⟩) hbz).trans d2
 have e3 := (hx811.cell (p := ⟨b, o + xs.length * 4 + 3, none⟩) hbz).trans d3
 have hfr2 : ∀ k, W11.frozen? ⟨b, k, none⟩ = false := fun k => (World.frozen?_of_block (hx811.block b hbz)).trans (hfr k)
 have hne : ¬ b = w8.heap.size := Nat.ne_of_lt hbz
 have hne2 : ¬ w8.heap.size = b := fun e => hne e.symm
 have HX11 := Lib.hid hx811
 have HK11 := Lib.hid hK11
 clear q1 g1 d0 d1 d2 d3 hfr hW11 hL11 hx811 hK11 hd9
 go_wp2_with fail
 go_ret
 have hsx : ∀ d, S d → d < w8.heap.size := fun d hd => Nat.lt_trans (HSb.out d hd) hz08
 have hrow := fresh_put (S1 := fun d => S d ∨ W9.heap.size ≤ d) (x := .mk z.tag z.attrs z.text G) (HR8.out.below (rdIn_stable _ _) (Keeps.all HX11.out)) (fun d hd => .inl hd) (fun hd => by
   have := HB89.out.size
   rcases hd with hd | hd
   ·have := HSb.out _ hd
    omega
   ·omega) ((HZA.out.below (rdOf_stable _) HX11.out).stable (rdOf_stable _) (Keeps.refl _ _) (fun d hd _ => .inl hd)) (HR10.out.stable (rdNod_stable _ _) (S' := fun d => S d ∨ W9.heap.size ≤ d) ⟨HK11.out.size, fun d hd hz => HK11.out.block d (fun e => by
   have := HB89.out.size
   subst e
   rcases hd with hd | hd
   ·have := hsx _ hd
    omega
   ·have hd : W9.heap.size ≤ w8.heap.size := hd
    omega) hz⟩ (fun d hd _ => hd))
 have hfin := (fresh_row hrow HF8.out).stable (rdNod_stable _ _) (Keeps.refl _ _) (S' := fun d => S d ∨ w.heap.size ≤ d) (fun d hd _ => by
  rcases hd with (hd | hd) | hd
  ·exact .inl hd
  ·exact .inr (by omega)
  ·exact .inr (by omega))
 refine ⟨_, rfl, ?_, ?_⟩
 ·exact hfin
 ·exact ((((hbb8.out.trans (HX11.out.mono hbb8.out.size)).setCell (by show w.heap.size ≤ b; omega) _).setCell (by show w.heap.size ≤ b; omega) _).setCell (by show w.heap.size ≤ b; omega) _).setCell (by show w.heap.size ≤ b; omega) _
theorem nest_at {W : List Wr} {j : Nat} {y : Wr} (h : W[j]? = some y) (leaf : Nod) : nestW (W.drop j) leaf = .mk y.1 y.2 [] [nestW (W.drop (j + 1)) leaf] := by
 obtain ⟨h1, rfl⟩ := List.getElem?_eq_some_iff.1 h
 rw [List.drop_eq_getElem_cons h1]
 rfl
def LeafBox (Z h : Nat) (S : Nat → Prop) (n : Nod) (w : World) : Prop := ∃ aa ac ka kc, w.heap[Z]? = some (.cells #[.int .i64 n.tag, .slice aa n.attrs.length ac, .string ⟨n.text.toArray⟩, .slice ka n.kids.length kc] 35) ∧ AttsR true w S (.slice aa n.attrs.length ac) n.attrs ∧ NodsR true h w S (.slice ka n.kids.length kc) n.kids
set_option maxRecDepth 100000 in
set_option maxHeartbeats 4000000 in
theorem put_base : PutAt 0 := by
 intro H hl nv av la lk l W leaf w S hN hA hLa hLk hS hH hsW hsp hcn hWl
 have hll : l.length ≤ 1000000 := by
  have h2 : ∀ l : List Nod, l.length ≤ Nod.counts l := by
   intro l
   induction l with
   | nil => simp
   | cons a l ih => rw [List.length_cons, Nod.counts]; have : 1 ≤ a.count := by cases a; rw [Nod.count]; omega
                    omega
  have := h2 l
  omega
 obtain ⟨na, nc, rfl⟩ := hN.slice
 obtain ⟨aa, ac, rfl, hac, ham, hax⟩ := SliceR.shape hA
 obtain ⟨lla, llc, rfl⟩ := hLa.slice
 obtain ⟨lka, lkc, rfl⟩ := hLk.slice
 have HAX : Hid (∀ i y, W[i]? = some y → ∃ b o ya yc yk ykc, aa = some ⟨b, o, none⟩ ∧ b < w.heap.size ∧ w.cell? ⟨b, o + i * 4, none⟩ = some (.int .i64 y.1) ∧ w.cell? ⟨b, o + i * 4 + 1, none⟩ = some (.slice ya y.2.length yc) ∧ w.cell? ⟨b, o + i * 4 + 2, none⟩ = some (.string ⟨#[]⟩) ∧ w.cell? ⟨b, o + i * 4 + 3, none⟩ = some (.slice yk 0 ykc) ∧ AttsR true w S (.slice ya y.2.length yc) y.2) := Lib.hid fun i y hy => by
  obtain ⟨b, o, vs, e, hz, _, _, hR, hc⟩ := hax i (wrN y) (by rw [List.getElem?_map, hy]; rfl)
  obtain ⟨a, k, rfl, r1, r2⟩ := hR
  obtain ⟨ya, yc, rfl⟩ := r1.slice
  obtain ⟨yk, ykc, rfl⟩ := r2.slice
  exact ⟨b, o, ya, yc, yk, ykc, e, hz, hc 0 _ rfl, hc 1 _ rfl, hc 2 _ rfl, hc 3 _ rfl, r1⟩
 simp only [List.length_map] at hac
 have HN := Lib.hid hN
 have HSb := Lib.hid hS
 obtain ⟨W1, hW1⟩ : ∃ W1, w.alloc (.cells #[.int .i64 leaf.tag, .slice lla leaf.attrs.length llc, .string ⟨leaf.text.toArray⟩, .slice lka leaf.kids.length lkc] 35) = W1 := ⟨_, rfl⟩
 have hb1 : Below w.heap.size w W1 := hW1 ▸ (Below.refl _ _).alloc (Nat.le_refl _) _
 have hz1 : w.heap.size < W1.heap.size := by rw [← hW1]; simp
 have HLB : Hid (LeafBox w.heap.size (hl + (W.length - W.length)) (fun d => S d ∨ W1.heap.size ≤ d) (nestW (W.drop W.length) leaf) W1) := Lib.hid (by
  rw [List.drop_length, Nat.sub_self]
  exact ⟨lla, llc, lka, lkc, hW1 ▸ heap_new _ _ rfl, (hLa.below (rdOf_stable _) hb1).stable (rdOf_stable _) (Keeps.refl _ _) (fun d hd _ => .inl hd), (hLk.below (rdNod_stable _ _) hb1).stable (rdNod_stable _ _) (Keeps.refl _ _) (fun d hd _ => .inl hd)⟩)
 have HBL := Lib.hid hb1
 have hd0 : decide ((0 : Int) < ((0 : Nat) : Int)) = false := rfl
 have hwl : IntKind.i64.wrap ((W.length : Int) - 1) = (W.length : Int) - 1 := by rw [IntKind.wrap_i64]; omega
 unfold maxLen at ham
 clear hN hA hLa hLk hS hax hb1 hsp hcn hsW
 rw [show putW l W leaf 0 = l ++ [nestW W leaf] by rw [putW]]
 obtain ⟨N, hNW⟩ : ∃ N, nestW W leaf = N := ⟨_, rfl⟩
 rw [hNW]
 have HNW := Lib.hid hNW
 clear hNW
 unfold nodV
 go_enter Tryz.func52, Tryz.ntmps52
 go_wp2_with fail
 go_loopw [11] (fun i wr => ∃ k : Nat, k ≤ W.length ∧ i = .int .i64 ((k : Int) - 1) ∧ Hid (LeafBox w.heap.size (hl + (W.length - k)) (fun d => S d ∨ W1.heap.size ≤ d) (nestW (W.drop k) leaf) wr) ∧ Hid (Below w.heap.size w wr) ∧ W1.heap.size ≤ wr.heap.size) (fun i _ => (intOf i + 1).toNat)
 case atStart => exact ⟨W.length, Nat.le_refl _, rfl, HLB, HBL, Nat.le_refl _⟩
 case round =>
  clear HLB
  obtain ⟨k, hk, rfl, HL, HBr, hzr⟩ := hrel
  obtain ⟨ya, yc, yk, ykc, hZ, hLa, hLk⟩ := HL.out
  obtain ⟨p2, f2⟩ := blk hZ
  cases k with
  | zero =>
   obtain ⟨H', rfl⟩ : ∃ H', H = H' + 1 := ⟨H - 1, by omega⟩
   rw [List.drop_zero, Nat.sub_zero, HNW.out] at HL
   rw [show (((0 : Nat) : Int) - 1) = -1 from rfl]
   clear hZ hLa hLk p2 f2
   obtain ⟨ya, yc, yk, ykc, hZ, hLa, hLk⟩ := HL.out
   obtain ⟨p2, f2⟩ := blk hZ
   have HZ := Lib.hid hZ
   have zz : w.heap.size < wr.heap.size := Nat.lt_of_lt_of_le hz1 hzr
   have HLA : Hid (∀ X, Below wr.heap.size wr X → AttsR true X (fun d => (S d ∨ W1.heap.size ≤ d) ∧ d < wr.heap.size) (.slice ya N.attrs.length yc) N.attrs) := Lib.hid fun X hX => hLa.stable (rdOf_stable _) (Keeps.all hX) (fun d hd hz => ⟨hd, hz⟩)
   have HLK : Hid (∀ X, Below wr.heap.size wr X → NodsR true H' X (fun d => (S d ∨ W1.heap.size ≤ d) ∧ d < wr.heap.size) (.slice yk N.kids.length ykc) N.kids) := Lib.hid fun X hX => nods_mono' (by omega) (hLk.stable (rdNod_stable _ _) (Keeps.all hX) (fun d hd hz => ⟨hd, hz⟩))
   have HNn : Hid (∀ X, Below wr.heap.size wr X → NodsR true (H' + 1) X (fun d => (S d ∨ W1.heap.size ≤ d) ∧ d < wr.heap.size) (.slice na l.length nc) l) := Lib.hid fun X hX => HN.out.stable (rdNod_stable _ _) ((Keeps.all HBr.out).trans (Keeps.all hX)) (fun d hd hz => ⟨.inl hd, Nat.lt_of_lt_of_le hz HBr.out.size⟩)
   have hSl : ∀ d, ((S d ∨ W1.heap.size ≤ d) ∧ d < wr.heap.size) → d < wr.heap.size := fun d hd => hd.2
   clear hZ hLa hLk
   go_upto_region 13 with fail
   go_region_held3 (fun X => X.cell? ⟨w.heap.size, 0, none⟩ = some (.int .i64 N.tag) ∧ X.cell? ⟨w.heap.size, 1, none⟩ = some (.slice ya N.attrs.length yc) ∧ X.cell? ⟨w.heap.size, 2, none⟩ = some (.string ⟨N.text.toArray⟩) ∧ X.cell? ⟨w.heap.size, 3, none⟩ = some (.slice yk N.kids.length ykc)) ((first | go_keep | skip))
    (first
     | (refine step_app_nods (by rfl) _ _ (by rfl) (fun d => (S d ∨ W1.heap.size ≤ d) ∧ d < wr.heap.size) (H' + 1) wr.heap.size (.slice (some ⟨wr.heap.size, 0, none⟩) 0 0) (.slice na l.length nc) (xs := []) (by rfl) (by rfl) (RwX.empty _ _ _ _ _ _) (fresh_empty _ _ _ (by omega)) (by simp <;> omega) hSl (HNn.out _ (by go_grown)) (by simp <;> omega) ?_; intro v8 w8 hR8 hF8 hB8 hG8; rw [List.nil_append] at hR8; obtain ⟨oa, on, oc, hve⟩ := slice_anyX hR8; subst hve; have HR8 := Lib.hid hR8; have HF8 := Lib.hid hF8; have HG8 := Lib.hid hG8; have hx8 : Below wr.heap.size wr w8 := Below.trans (by go_grown) hB8; have HX8 := Lib.hid hx8; obtain ⟨q1, g1⟩ := blk (heap_below hx8 HZ.out); clear hR8 hF8 hG8 hB8)
     | (refine step_app_nods (by rfl) _ _ (by rfl) (fun d => (S d ∨ W1.heap.size ≤ d) ∧ d < wr.heap.size) (H' + 1) wr.heap.size (.slice (some ⟨wr.heap.size + 1, 0, none⟩) 0 0) (.slice na l.length nc) (xs := []) (by rfl) (by rfl) (RwX.empty _ _ _ _ _ _) (fresh_empty _ _ _ (by omega)) (by simp <;> omega) hSl (HNn.out _ (by go_grown)) (by simp <;> omega) ?_; intro v8 w8 hR8 hF8 hB8 hG8; rw [List.nil_append] at hR8; obtain ⟨oa, on, oc, hve⟩ := slice_anyX hR8; subst hve; have HR8 := Lib.hid hR8; have HF8 := Lib.hid hF8; have HG8 := Lib.hid hG8; have hx8 : Below wr.heap.size wr w8 := Below.trans (by go_grown) hB8; have HX8 := Lib.hid hx8; obtain ⟨q1, g1⟩ := blk (heap_below hx8 HZ.out); clear hR8 hF8 hG8 hB8)
     | (refine step_app_node (by rfl) _ _ (by rfl) (fun d => (S d ∨ W1.heap.size ≤ d) ∧ d < wr.heap.size) H' wr.heap.size (.slice oa on oc) (xs := l) (z := N) (B := w8.heap.size) (c := 1) (va := .slice ya N.attrs.length yc) (vk := .slice yk N.kids.length ykc) (by rfl) (by rfl) (HR8.out.below (rdIn_stable _ _) (Keeps.all ((Below.refl _ _).alloc (Nat.le_refl _) _))) HF8.out (HX8.out.alloc HX8.out.size _).size hSl (heap_new _ _ rfl) (HLA.out _ (HX8.out.alloc HX8.out.size _)) (HLK.out _ (HX8.out.alloc HX8.out.size _)) (by omega) ?_; intro v9 w9 hR9 hF9 hB9; obtain ⟨pa, pn, pc, hve⟩ := slice_anyX hR9; subst hve; have HR9 := Lib.hid hR9; have HF9 := Lib.hid hF9; have hx9 : Below wr.heap.size wr w9 := Below.trans (HX8.out.alloc HX8.out.size _) hB9; have HX9 := Lib.hid hx9; obtain ⟨q2, g2⟩ := blk (heap_below hx9 HZ.out); clear hR9 hF9 hB9)
     | (refine step_app_node (by rfl) _ _ (by rfl) (fun d => (S d ∨ W1.heap.size ≤ d) ∧ d < wr.heap.size) H' wr.heap.size (.slice oa on oc) (xs := l) (z := N) (B := wr.heap.size + 1) (c := 1) (va := .slice ya N.attrs.length yc) (vk := .slice yk N.kids.length ykc) (by rfl) (by rfl) HR8.out HF8.out HX8.out.size hSl ((HG8.out.block _ (by simp) (by show some _ ≠ some _; simp)).trans (heap_new _ _ (by simp))) (HLA.out _ (HX8.out)) (HLK.out _ (HX8.out)) (by omega) ?_; intro v9 w9 hR9 hF9 hB9; obtain ⟨pa, pn, pc, hve⟩ := slice_anyX hR9; subst hve; have HR9 := Lib.hid hR9; have HF9 := Lib.hid hF9; have hx9 : Below wr.heap.size wr w9 := Below.trans (HX8.out) hB9; have HX9 := Lib.hid hx9; obtain ⟨q2, g2⟩ := blk (heap_below hx9 HZ.out); clear hR9 hF9 hB9)
     | (refine step_app_node (by rfl) _ _ (by rfl) (fun d => (S d ∨ W1.heap.size ≤ d) ∧ d < wr.heap.size) H' wr.heap.size (.slice oa on oc) (xs := l) (z := N) (B := wr.heap.size) (c := 1) (va := .slice ya N.attrs.length yc) (vk := .slice yk N.kids.length ykc) (by rfl) (by rfl) HR8.out HF8.out HX8.out.size hSl ((HG8.out.block _ (by simp <;> omega) (by show some _ ≠ some _; simp)).trans (heap_old _ _ (heap_new _ _ rfl))) (HLA.out _ (HX8.out)) (HLK.out _ (HX8.out)) (by omega) ?_; intro v9 w9 hR9 hF9 hB9; obtain ⟨pa, pn, pc, hve⟩ := slice_anyX hR9; subst hve; have HR9 := Lib.hid hR9; have HF9 := Lib.hid hF9; have hx9 : Below wr.heap.size wr w9 := Below.trans (HX8.out) hB9; have HX9 := Lib.hid hx9; obtain ⟨q2, g2⟩ := blk (heap_below hx9 HZ.out); clear hR9 hF9 hB9))
   all_goals
    go_wp2_with fail
    go_ret
    exact ⟨_, rfl, (fresh_row HR9.out HF9.out).stable (rdNod_stable _ _) (Keeps.refl _ _) (fun d hd _ => by
     rcases hd with ⟨hd | hd, _⟩ | hd
     ·exact .inl hd
     ·exact .inr (by omega)
     ·exact .inr (by omega)), below_from HBr.out HX9.out⟩
  | succ j =>
   obtain ⟨y, hy, _⟩ := getOf W j hk
   obtain ⟨b, o, ga, gc, gk, gkc, rfl, hz, c0, c1, c2, c3, hga⟩ := HAX.out j y hy
   have hji : (((j + 1 : Nat) : Int) - 1) = (j : Int) := by omega
   have HNE := Lib.hid (nest_at hy leaf)
   rw [hji]
   have hq : decide ((0 : Int) ≤ (j : Int)) = true := decide_eq_true (Int.natCast_nonneg _)
   have i0 : (0 : Int) ≤ (j : Int) := Int.natCast_nonneg _
   have i1 : (j : Int) < (W.length : Int) := by omega
   have hwj : IntKind.i64.wrap ((j : Int) - 1) = (j : Int) - 1 := by rw [IntKind.wrap_i64]; omega
   have c0 := (HBr.out.cell (p := ⟨b, o + j * 4, none⟩) hz).trans c0
   have c1 := (HBr.out.cell (p := ⟨b, o + j * 4 + 1, none⟩) hz).trans c1
   have c2 := (HBr.out.cell (p := ⟨b, o + j * 4 + 2, none⟩) hz).trans c2
   have c3 := (HBr.out.cell (p := ⟨b, o + j * 4 + 3, none⟩) hz).trans c3
   have zz : w.heap.size < wr.heap.size := Nat.lt_of_lt_of_le hz1 hzr
   have zz1 : ¬ w.heap.size = wr.heap.size := Nat.ne_of_lt zz
   have zz2 : ¬ w.heap.size = wr.heap.size + 1 := by omega
   have HGA := Lib.hid hga
   have HLA := Lib.hid hLa
   have HLK := Lib.hid hLk
   have HZ := Lib.hid hZ
   clear hy hga hLa hLk hji hZ
   clear HNW
   generalize nestW (W.drop (j + 1)) leaf = M at *
   go_wp2_with fail
   have hSZ : ¬ (S w.heap.size ∨ W1.heap.size ≤ w.heap.size) := fun hd => by
    rcases hd with hd | hd
    ·have := HSb.out _ hd
     omega
    ·omega
   obtain ⟨X, hX⟩ : ∃ X, ((((wr.setCell ⟨w.heap.size, 0, none⟩ (.int .i64 y.1)).setCell ⟨w.heap.size, 1, none⟩ (.slice ga y.2.length gc)).setCell ⟨w.heap.size, 2, none⟩ (.string ⟨#[]⟩)).setCell ⟨w.heap.size, 3, none⟩ (.slice (some ⟨wr.heap.size + 1, 0, none⟩) 1 1)).alloc (.cells #[.int .i64 y.1, .slice ga y.2.length gc, .string ⟨#[]⟩, .slice (some ⟨wr.heap.size + 1, 0, none⟩) 1 1] 35) = X := ⟨_, rfl⟩
   have hXs : X.heap.size = wr.heap.size + 1 := by rw [← hX]; simp
   have hXZ : X.heap[w.heap.size]? = some (.cells #[.int .i64 y.1, .slice ga y.2.length gc, .string ⟨#[]⟩, .slice (some ⟨wr.heap.size + 1, 0, none⟩) 1 1] 35) := by
    rw [← hX]
    exact heap_old _ _ (by simp [heap_set, putIn, HZ.out])
   have hKX : ∀ T : Nat → Prop, ¬ T w.heap.size → Keeps T wr X := fun T hT => by
    rw [← hX]
    exact (((((Keeps.refl _ _).set hT _).set hT _).set hT _).set hT _).alloc _
   have hBX : Below w.heap.size w X := by
    rw [← hX]
    exact ((((HBr.out.setCell (Nat.le_refl _) _).setCell (Nat.le_refl _) _).setCell (Nat.le_refl _) _).setCell (Nat.le_refl _) _).alloc (by have := HBr.out.size; simpa using this) _
   go_roundw
   case rel =>
    rw [hX]
    refine ⟨j, by omega, rfl, Lib.hid ?_, Lib.hid (hBX.alloc hBX.size _), by simp; omega⟩
    rw [HNE.out]
    have hrow : NodsR true (hl + (W.length - (j + 1)) + 1) (X.alloc (.cells #[.int .i64 M.tag, .slice ya M.attrs.length yc, .string ⟨M.text.toArray⟩, .slice yk M.kids.length ykc] 35)) (fun d => S d ∨ W1.heap.size ≤ d) (.slice (some ⟨wr.heap.size + 1, 0, none⟩) 1 1) [M] := by
     rw [← hXs]
     exact SliceR.one_new X [.int .i64 M.tag, .slice ya M.attrs.length yc, .string ⟨M.text.toArray⟩, .slice yk M.kids.length ykc] rfl ⟨_, _, rfl, HLA.out.stable (rdOf_stable _) ((hKX _ hSZ).alloc _) (fun _ h _ => h), HLK.out.stable (rdNod_stable _ _) ((hKX _ hSZ).alloc _) (fun _ h _ => h)⟩ (.inr (by omega))
    rw [show hl + (W.length - j) = hl + (W.length - (j + 1)) + 1 by omega]
    refine ⟨ga, gc, some ⟨wr.heap.size + 1, 0, none⟩, 1, heap_old _ _ hXZ, ?_, hrow⟩
    exact HGA.out.stable (rdOf_stable _) (((Keeps.all HBr.out).trans (hKX S (fun hs => hSZ (.inl hs)))).alloc _) (fun d hd _ => .inl hd)
   case measure => simp [intOf]
theorem put_all : ∀ s, PutAt s
 | 0 => put_base
 | s + 1 => put_deep s (put_all s)
end Go.Proofs.YteognfhemmogpaaGreatDoor
namespace Go.Proofs.YteognfhemmogpaaGreatDoor
open Go.RowKit
open Go.Proofs.Qw
attribute [local go_sem] Oper.semAt_some
set_option maxRecDepth 200000 in
set_option maxHeartbeats 8000000 in
theorem leaves_any (v : Value) (l : List Cel) (w w0 : World) (S : Nat → Prop) (hv : CelsR false w0 S v l) (h0 : Below w0.heap.size w0 w) (hlen : l.length ≤ 100000) :
  Calls Tryz.prog 93 #[v] w fun e w' => ∃ v', e = .returned v' ∧ NodsR true 1 w' (fun b => w.heap.size ≤ b) v' (leavesN l) ∧ Below w.heap.size w w' := by
 have hw := SliceR.below (rdOf_stable _) hv h0
 obtain ⟨va, vc, rfl⟩ := hv.slice
 have HV := Lib.hid hw
 clear hv hw
 refine (callsIn_wide (n := 6)).1 ?_
 refine callsIn_of_wp_marks Tryz.func93 rfl trivial ?_ rfl
 simp only [Tryz.ntmps93, List.size_toArray, List.length_cons, List.length_nil, Nat.reduceAdd, Nat.reduceSub, Array.replicate_succ, Array.replicate_zero, List.push_toArray, List.append_toArray, List.nil_append, List.cons_append]
 have hwf : ∀ f, Fence.wide.fn f := fun _ => trivial
 have hwd : Fence.wide.depth = none := rfl
 gi_wp2_with (gi_at_call 83; refine (callsIn_wide.2 (partsC_any _ _ _ _ _ _)).mono ?_; rintro e w5 ⟨rfl, rfl⟩)
 obtain ⟨w6, hw6⟩ : ∃ w6, ((w.alloc (.cells #[.slice none 0 0] 33)).alloc (.cells #[.slice va l.length vc] 29)).alloc (.cells #[.func (.func 101) #[] #[]] 128) = w6 := ⟨_, rfl⟩
 rw [hw6]
 have hb6 : Below w.heap.size w w6 := hw6 ▸ (((Below.refl _ _).alloc (Nat.le_refl _) _).alloc (by simp) _).alloc (by simp; omega) _
 have hz6 : w6.heap.size = w.heap.size + 3 := by rw [← hw6]; simp
 have m0 : w6.heap[w.heap.size]? = some (.cells #[.slice none 0 0] 33) := hw6 ▸ heap_old _ _ (heap_old _ _ (heap_new _ _ rfl))
 have n0 : w6.heap[w.heap.size + 1]? = some (.cells #[.slice va l.length vc] 29) := hw6 ▸ heap_old _ _ (heap_new _ _ (by simp))
 have n1 : w6.heap[w.heap.size + 1 + 1]? = some (.cells #[.func (.func 101) #[] #[]] 128) := hw6 ▸ heap_new _ _ (by simp)
 have hPL : PL (d := l) 1 (fun p => [leafP p]) w w.heap.size w6.heap.size [] w6 := ⟨_, m0, RwX.nil _ _ _ _ _, .inl rfl, hb6, Nat.le_refl _⟩
 have N0 := Lib.hid (And.intro n0 n1)
 have hZB : w.heap.size < w6.heap.size := by omega
 have HZ6 := Lib.hid hz6
 have hB1 : w.heap.size ≤ w.heap.size := Nat.le_refl _
 have hB2 : w.heap.size < w.heap.size + 1 := Nat.lt_succ_self _
 have hB3 := hZB
 have hwZ := hb6.size
 clear hw6 m0 n0 n1 hz6
 refine rangeFunc_slotB rfl (by omega) (gf := 92) (lb := #[.pointer (some ⟨w.heap.size + 1, 0, none⟩), .pointer (some ⟨w.heap.size + 1 + 1, 0, none⟩)]) rfl trivial (enters_of Tryz.func92 (by kernel_rfl) rfl)
  (encs := partEnc (d := l) va vc 3) (n₀ := w.heap.size) (base := w.heap.size + 1) (top := w6.heap.size) (S := fun ys => ys.map (fun y => cutP l y.1) = partsBy textR l) (Sp := fun _ => True) (N := l.length) (w0 := w6) ?seq hb6.size (Below.refl _ _) (fun _ => rfl)
  (PL 1 (fun p => [leafP p]) w w.heap.size w6.heap.size) (pl_own hb6.size) hPL ?act ?assign ?body ?done
 case seq =>
  intro l' J Jx W hW hJ _ hY h0
  exact parts1_leaves 5 l' (w.heap.size + 1) (w.heap.size + 1 + 1) (w.heap.size + 1) w6.heap.size va vc l textR S J Jx w W HV.out (hb6.trans (hW.mono hb6.size)) (fun X _ x y => al_leaves x y X) ⟨by omega, by omega⟩ (by have := HZ6.out; omega) (heap_below hW N0.out.1) (heap_below hW N0.out.2) hlen hJ hY h0
 case assign =>
  intro l' pre x W K hI hK
  rw [show partEnc va vc 3 x = #[partV va vc 3 x.1] from rfl]
  gi_wp2
  exact hK
 case body =>
  intro l' pre x W hI hlt
  obtain ⟨v0, hD, hRW, hne, hb, hzW⟩ := hI
  have hpr := part_cels (HV.out.below (rdOf_stable _) hb) x
  have hpn := cut_ne x
  have hpz := cut_len x
  obtain ⟨P, hP⟩ : ∃ P, cutP l x.1 = P := ⟨_, rfl⟩
  have HT : Hid ((pre ++ [x]).flatMap (fun y => [leafP (cutP l y.1)]) = pre.flatMap (fun y => [leafP (cutP l y.1)]) ++ [leafP P]) := Lib.hid (by rw [List.flatMap_append]; simp [hP])
  rw [hP] at hpr hpn hpz
  obtain ⟨pa, pc, hpe, hpl, hpm, hpx⟩ := cels_shape hpr
  rw [hpe]
  obtain ⟨c, P', rfl⟩ : ∃ c P', P = c :: P' := by cases P with | nil => exact absurd rfl hpn | cons c P' => exact ⟨c, P', rfl⟩
  obtain ⟨bb, oo, e, hbz, c0, c1, c2⟩ := hpx 0 c rfl
  subst e
  simp only [Nat.zero_mul, Nat.add_zero] at c0 c1 c2
  have HPX := Lib.hid hpx
  obtain ⟨xs, hxs⟩ : ∃ xs, pre.flatMap (fun y : PartX l => [leafP (cutP l y.1)]) = xs := ⟨_, rfl⟩
  have hxl0 : xs.length = pre.length := by rw [← hxs, flat_one]; simp
  have hxl : xs.length + 1 ≤ 100000000 := by omega
  clear hxl0
  rw [hxs] at hRW hne HT
  have HRB := Lib.hid (rowx_block hRW hne)
  obtain ⟨sv, sc, hv0⟩ := hRW.slice
  subst hv0
  have HRW : Hid (∀ X, Below W.heap.size W X → RwX 35 4 (rdNod true 1) X w6.heap.size (.slice sv xs.length sc) xs) := Lib.hid fun X hX => RwX.below (rdNod_stable _ _) hRW (.all (by exact ⟨hX.os, hX.tape, hX.output, hX.size, fun b hz => hX.block b hz⟩))
  have HBO : Hid (∀ X, Below W.heap.size W X → X.heap[w.heap.size]? = some (.cells #[.slice sv xs.length sc] 33)) := Lib.hid fun X hX => heap_below hX hD
  have HNE := Lib.hid hne
  have HIN := Lib.hid (And.intro hb hzW)
  have HX9 := Lib.hid hxs
  obtain ⟨q0, g0⟩ := blk hD
  have i0 : (0 : Int) < (((c :: P').length : Nat) : Int) := by simp only [List.length_cons]; omega
  have hb0 : Below W.heap.size W W.drew := (Below.refl _ _).drew
  clear hpx hpr hP hpn hRW hne hxs
  by_cases h10 : c.r = 10
  ·have hq : (c.r == 10) = true := by simp [h10]
   have HE : Hid (∀ X, Below W.heap.size W X → Calls Tryz.prog 24 #[.int .i64 16, .slice none 0 0] X fun e X' => ∃ ka kc, e = .returned (.agg #[.int .i64 16, .slice none 0 0, .string ⟨#[]⟩, .slice ka 0 kc]) ∧ NodsR true 0 X' (fun b => X.heap.size ≤ b) (.slice ka 0 kc) [] ∧ Below X.heap.size X X') := Lib.hid fun X hX => by
    refine (elem_any 0 16 (.slice none 0 0) [] false X X (fun _ => True) (SliceR.nil _ _ _ _ _ _) (Below.refl _ _) (by simp) trivial).mono ?_
    rintro e X' ⟨k', h1, h2, h3⟩
    obtain ⟨ka, kc, rfl⟩ := h2.slice
    exact ⟨ka, kc, h1, h2, h3⟩
   replace HT : Hid ((pre ++ [x]).flatMap (fun y => [leafP (cutP l y.1)]) = xs ++ [brN]) := Lib.hid (by rw [HT.out, show leafP (c :: P') = brN from if_pos h10])
   gi_wp2_with fail
   refine wpIn_region_T (fun _ => True) (fun w' => w'.cell? ⟨w.heap.size, 0, none⟩ = some (.slice sv xs.length sc)) 7 (by kernel_rfl) (by kernel_rfl) (fun R hR => ?_)
   refine anyT_take (i := 0) (v := ?_) (by simp only [qA, qZ]; rfl) (by kernel_rfl) (by kernel_rfl) (by kernel_rfl) (by kernel_rfl) (fun _ _ _ h => h) (Or.inl ⟨by rfl, ?_⟩) ⟨trivial, by rw [(blk (HBO.out _ hb0)).1 0]; rfl⟩ ?_
   rotate_left 1
   ·intro w hSw; (try dsimp only at hSw); go_simp; (first | done | with_reducible rfl)
   try simp only [Act.put, qI, qX, qY]
   refine anyT_take (i := 2) (v := ?_) (by simp only [qA, qS, qZ]; rfl) (by kernel_rfl) (by kernel_rfl) (by kernel_rfl) (by kernel_rfl) (fun _ _ _ h => h) (Or.inl ⟨by rfl, ?_⟩) ⟨trivial, by rw [(blk (HBO.out _ hb0)).1 0]; rfl⟩ ?_
   rotate_left 1
   ·intro w hSw; (try dsimp only at hSw); go_simp; (first | done | with_reducible rfl)
   try simp only [Act.put, qI, qX, qY]
   refine anyT_ready (rs := [1, 3]) (by kernel_rfl) (by simp) ?_
   refine AllReadyT.cons (by simp only [qA, qS, qZ]; rfl) (fun K hK => ?_) ?_
   ·go_simp
    refine (HE.out _ hb0).mono ?_
    rintro e x1 ⟨ka, kc, rfl, hk1, hst1⟩
    have HK1 := Lib.hid hk1
    clear hk1
    have hb1 : Below W.heap.size W x1 := below_from hb0 hst1
    refine hK.out _ _ (trivial) (Or.inr (by rw [(blk (HBO.out _ hb1)).1 0]; rfl)) ?_
    clear hK K
    try simp only [Act.put, qI, qX, qY]
    refine anyT_ready (rs := [3]) (by kernel_rfl) (by simp) ?_
    refine AllReadyT.cons (by simp only [qA, qS, qZ]; rfl) (fun K hK => ?_) AllReadyT.nil
    go_simp
    obtain ⟨x2, hx2⟩ : ∃ X, (x1.alloc (.cells #[.int .i64 0, .slice none 0 0, .string ⟨#[]⟩, .slice none 0 0] 35)) = X := ⟨_, rfl⟩
    have hst2 : Below x1.heap.size x1 x2 := hx2 ▸ (Below.refl _ _).alloc (Nat.le_refl _) _
    have hz2 : x2.heap[x1.heap.size]? = some (.cells #[.int .i64 0, .slice none 0 0, .string ⟨#[]⟩, .slice none 0 0] 35) := hx2 ▸ heap_new _ _ rfl
    rw [hx2]
    clear hx2
    have hb2 : Below W.heap.size W x2 := below_from hb1 hst2
    refine hK.out _ _ (trivial) (Or.inr (by rw [(blk (HBO.out _ hb2)).1 0]; rfl)) ?_
    clear hK K
    try simp only [Act.put, qI, qX, qY]
    refine anyT_ready (rs := [4]) (by kernel_rfl) (by simp) ?_
    refine AllReadyT.cons (by simp only [qA, qS, qZ]; rfl) (fun K hK => ?_) AllReadyT.nil
    have hbs3 := hb2.size
    have HRX3 := HRW.out _ hb2
    (refine step_append_X (by rfl) _ _ 33 33 (by rfl) rowNod (eltNod 1) w6.heap.size (.slice sv xs.length sc) _ (xs := xs) (ys := [zeroN]) (news := [.int .i64 0, .slice none 0 0, .string ⟨#[]⟩, .slice none 0 0]) (by rfl) (by rfl) HRX3 (Nat.le_trans HIN.out.2 hb2.size) (src_node hz2 (oneV_node zeroN _ _ _ _ _ _) 1) (news_apart (rdNod_stable _ _) HRX3 (Nat.le_trans HIN.out.2 hb2.size) zero_news) hxl ?_)
    intro va3 y3 hra3 hba3 hga3 hor3
    obtain ⟨b3, o3, c3, la3, lc3, ka3, kc3, rfl, hbn3, hbl3, hbh3, hbf3, d0, d1, d2, d3, hcm3⟩ := rowx_last hra3
    have hap3 := app_apart hga3 hor3 HRB.out
    have HAP3 := Lib.hid (And.intro hap3 (And.intro hga3 hba3))
    clear hap3 hor3 hga3
    have HRA3 := Lib.hid hra3
    clear hra3
    have hob3 : y3.heap[w.heap.size]? = some (.cells #[.slice sv xs.length sc] 33) := (hba3.block _ (by have := hZB; have := hbs3; omega)).trans (HBO.out _ hb2)
    obtain ⟨qo3, fo3⟩ := blk hob3
    have ne3 : ¬ b3 = w.heap.size := by have := hZB; omega
    have nf3 : ¬ w.heap.size = b3 := by have := hZB; omega
    have i33 : (0 : Int) ≤ ((xs.length : Nat) : Int) := Int.natCast_nonneg _
    have i43 : ((xs.length : Nat) : Int) < ((xs.length : Nat) : Int) + 1 := by omega
    refine hK.out _ _ (trivial) (Or.inr (by rw [qo3 0]; rfl)) ?_
    clear hK K
    try simp only [Act.put, qI, qX, qY]
    refine anyT_takeA (i := 5) (v := ?_) (by simp only [qA, qS, qZ]; rfl) (by kernel_rfl) (by kernel_rfl) (by kernel_rfl) (by kernel_rfl) (fun _ _ _ h => h) (Or.inl ⟨by rfl, ?_⟩) (trivial) (Or.inr (by rw [qo3 0]; rfl)) ?_
    rotate_left 1
    ·intro w hSw; (try dsimp only at hSw); go_simp; (first | done | with_reducible rfl)
    try simp only [Act.put, qI, qX, qY]
    refine anyT_ready (rs := [6, 7]) (by kernel_rfl) (by simp) ?_
    refine AllReadyT.cons (by simp only [qA, qS, qZ]; rfl) (fun K hK => ?_) ?_
    ·go_simp
     refine hK.out _ _ (trivial) (Or.inr ((setCell_block ne3).trans ((setCell_block ne3).trans ((setCell_block ne3).trans ((setCell_block ne3).trans (by rw [qo3 0]; rfl)))))) ?_
     clear hK K
     try simp only [Act.put, qI, qX, qY]
     refine anyT_ready (rs := [7]) (by kernel_rfl) (by simp) ?_
     refine AllReadyT.cons (by simp only [qA, qS, qZ]; rfl) (fun K hK => ?_) AllReadyT.nil
     go_simp
     refine hK.out _ _ (trivial) (Or.inl (by kernel_rfl)) ?_
     clear hK K
     try simp only [Act.put, qI, qX, qY]
     refine anyT_done (by kernel_rfl) ?_ _
     refine hR.out _ _ ?_
     have hnode := node_ready (h := 0) (n := brN) (SliceR.nil _ _ _ _ _ _) (HK1.out.stable (rdNod_stable _ _) (Keeps.refl _ _) (fun d h _ => Nat.le_trans hb0.size h)) (below_from (Below.refl _ _) hst2) HAP3.out.1.1 HAP3.out.1.2 HIN.out.2
     have hfin := put_done (F := fun p => [leafP p]) HIN.out.1 HIN.out.2 hB1 hB2 hB3 hwZ hb2 HRA3.out HAP3.out.2.2 HAP3.out.2.1 HRX3 HNE.out hbn3 hnode hob3 HT.out
     gi_wp2_with fail
     exact ⟨hfin.1 _, hfin.2⟩
    refine AllReadyT.cons (by simp only [qA, qS, qZ]; rfl) (fun K hK => ?_) ?_
    ·go_simp
     refine hK.out _ _ (trivial) (Or.inl (by kernel_rfl)) ?_
     clear hK K
     try simp only [Act.put, qI, qX, qY]
     refine anyT_ready (rs := [6]) (by kernel_rfl) (by simp) ?_
     refine AllReadyT.cons (by simp only [qA, qS, qZ]; rfl) (fun K hK => ?_) AllReadyT.nil
     go_simp
     refine hK.out _ _ (trivial) (Or.inl (by kernel_rfl)) ?_
     clear hK K
     try simp only [Act.put, qI, qX, qY]
     refine anyT_done (by kernel_rfl) ?_ _
     refine hR.out _ _ ?_
     have hnode := node_ready (h := 0) (n := brN) (SliceR.nil _ _ _ _ _ _) (HK1.out.stable (rdNod_stable _ _) (Keeps.refl _ _) (fun d h _ => Nat.le_trans hb0.size h)) (below_from (Below.refl _ _) hst2) HAP3.out.1.1 HAP3.out.1.2 HIN.out.2
     have hfin := put_done2 (F := fun p => [leafP p]) HIN.out.1 HIN.out.2 hB1 hB2 hB3 hwZ hb2 HRA3.out HAP3.out.2.2 HAP3.out.2.1 HRX3 HNE.out hbn3 hnode hob3 HT.out
     gi_wp2_with fail
     exact ⟨hfin.1 _, hfin.2⟩
    exact AllReadyT.nil
   refine AllReadyT.cons (by simp only [qA, qS, qZ]; rfl) (fun K hK => ?_) ?_
   ·go_simp
    obtain ⟨x8, hx8⟩ : ∃ X, (W.alloc (.cells #[.int .i64 0, .slice none 0 0, .string ⟨#[]⟩, .slice none 0 0] 35)).drew = X := ⟨_, rfl⟩
    have hst8 : Below W.heap.size W x8 := hx8 ▸ ((Below.refl _ _).alloc (Nat.le_refl _) _).drew
    have hz8 : x8.heap[W.heap.size]? = some (.cells #[.int .i64 0, .slice none 0 0, .string ⟨#[]⟩, .slice none 0 0] 35) := hx8 ▸ (show ((W.alloc (.cells #[.int .i64 0, .slice none 0 0, .string ⟨#[]⟩, .slice none 0 0] 35)).drew).heap[W.heap.size]? = _ from heap_new _ _ rfl)
    rw [hx8]
    clear hx8
    have hb8 : Below W.heap.size W x8 := hst8
    refine hK.out _ _ (trivial) (Or.inr (by rw [(blk (HBO.out _ hb8)).1 0]; rfl)) ?_
    clear hK K
    try simp only [Act.put, qI, qX, qY]
    refine anyT_ready (rs := [1]) (by kernel_rfl) (by simp) ?_
    refine AllReadyT.cons (by simp only [qA, qS, qZ]; rfl) (fun K hK => ?_) AllReadyT.nil
    go_simp
    refine (HE.out _ hb8).mono ?_
    rintro e x9 ⟨ka, kc, rfl, hk9, hst9⟩
    have HK9 := Lib.hid hk9
    clear hk9
    have hb9 : Below W.heap.size W x9 := below_from hb8 hst9
    have hz9 := heap_below hst9 hz8
    refine hK.out _ _ (trivial) (Or.inr (by rw [(blk (HBO.out _ hb9)).1 0]; rfl)) ?_
    clear hK K
    try simp only [Act.put, qI, qX, qY]
    refine anyT_ready (rs := [4]) (by kernel_rfl) (by simp) ?_
    refine AllReadyT.cons (by simp only [qA, qS, qZ]; rfl) (fun K hK => ?_) AllReadyT.nil
    have hbs10 := hb9.size
    have HRX10 := HRW.out _ hb9
    (refine step_append_X (by rfl) _ _ 33 33 (by rfl) rowNod (eltNod 1) w6.heap.size (.slice sv xs.length sc) _ (xs := xs) (ys := [zeroN]) (news := [.int .i64 0, .slice none 0 0, .string ⟨#[]⟩, .slice none 0 0]) (by rfl) (by rfl) HRX10 (Nat.le_trans HIN.out.2 hb9.size) (src_node hz9 (oneV_node zeroN _ _ _ _ _ _) 1) (news_apart (rdNod_stable _ _) HRX10 (Nat.le_trans HIN.out.2 hb9.size) zero_news) hxl ?_)
    intro va10 y10 hra10 hba10 hga10 hor10
    obtain ⟨b10, o10, c10, la10, lc10, ka10, kc10, rfl, hbn10, hbl10, hbh10, hbf10, d0, d1, d2, d3, hcm10⟩ := rowx_last hra10
    have hap10 := app_apart hga10 hor10 HRB.out
    have HAP10 := Lib.hid (And.intro hap10 (And.intro hga10 hba10))
    clear hap10 hor10 hga10
    have HRA10 := Lib.hid hra10
    clear hra10
    have hob10 : y10.heap[w.heap.size]? = some (.cells #[.slice sv xs.length sc] 33) := (hba10.block _ (by have := hZB; have := hbs10; omega)).trans (HBO.out _ hb9)
    obtain ⟨qo10, fo10⟩ := blk hob10
    have ne10 : ¬ b10 = w.heap.size := by have := hZB; omega
    have nf10 : ¬ w.heap.size = b10 := by have := hZB; omega
    have i310 : (0 : Int) ≤ ((xs.length : Nat) : Int) := Int.natCast_nonneg _
    have i410 : ((xs.length : Nat) : Int) < ((xs.length : Nat) : Int) + 1 := by omega
    refine hK.out _ _ (trivial) (Or.inr (by rw [qo10 0]; rfl)) ?_
    clear hK K
    try simp only [Act.put, qI, qX, qY]
    refine anyT_takeA (i := 5) (v := ?_) (by simp only [qA, qS, qZ]; rfl) (by kernel_rfl) (by kernel_rfl) (by kernel_rfl) (by kernel_rfl) (fun _ _ _ h => h) (Or.inl ⟨by rfl, ?_⟩) (trivial) (Or.inr (by rw [qo10 0]; rfl)) ?_
    rotate_left 1
    ·intro w hSw; (try dsimp only at hSw); go_simp; (first | done | with_reducible rfl)
    try simp only [Act.put, qI, qX, qY]
    refine anyT_ready (rs := [6, 7]) (by kernel_rfl) (by simp) ?_
    refine AllReadyT.cons (by simp only [qA, qS, qZ]; rfl) (fun K hK => ?_) ?_
    ·go_simp
     refine hK.out _ _ (trivial) (Or.inr ((setCell_block ne10).trans ((setCell_block ne10).trans ((setCell_block ne10).trans ((setCell_block ne10).trans (by rw [qo10 0]; rfl)))))) ?_
     clear hK K
     try simp only [Act.put, qI, qX, qY]
     refine anyT_ready (rs := [7]) (by kernel_rfl) (by simp) ?_
     refine AllReadyT.cons (by simp only [qA, qS, qZ]; rfl) (fun K hK => ?_) AllReadyT.nil
     go_simp
     refine hK.out _ _ (trivial) (Or.inl (by kernel_rfl)) ?_
     clear hK K
     try simp only [Act.put, qI, qX, qY]
     refine anyT_done (by kernel_rfl) ?_ _
     refine hR.out _ _ ?_
     have hnode := node_ready (h := 0) (n := brN) (SliceR.nil _ _ _ _ _ _) (HK9.out.stable (rdNod_stable _ _) (Keeps.refl _ _) (fun d h _ => Nat.le_trans hb8.size h)) (Below.refl _ _) HAP10.out.1.1 HAP10.out.1.2 HIN.out.2
     have hfin := put_done (F := fun p => [leafP p]) HIN.out.1 HIN.out.2 hB1 hB2 hB3 hwZ hb9 HRA10.out HAP10.out.2.2 HAP10.out.2.1 HRX10 HNE.out hbn10 hnode hob10 HT.out
     gi_wp2_with fail
     exact ⟨hfin.1 _, hfin.2⟩
    refine AllReadyT.cons (by simp only [qA, qS, qZ]; rfl) (fun K hK => ?_) ?_
    ·go_simp
     refine hK.out _ _ (trivial) (Or.inl (by kernel_rfl)) ?_
     clear hK K
     try simp only [Act.put, qI, qX, qY]
     refine anyT_ready (rs := [6]) (by kernel_rfl) (by simp) ?_
     refine AllReadyT.cons (by simp only [qA, qS, qZ]; rfl) (fun K hK => ?_) AllReadyT.nil
     go_simp
     refine hK.out _ _ (trivial) (Or.inl (by kernel_rfl)) ?_
     clear hK K
     try simp only [Act.put, qI, qX, qY]
     refine anyT_done (by kernel_rfl) ?_ _
     refine hR.out _ _ ?_
     have hnode := node_ready (h := 0) (n := brN) (SliceR.nil _ _ _ _ _ _) (HK9.out.stable (rdNod_stable _ _) (Keeps.refl _ _) (fun d h _ => Nat.le_trans hb8.size h)) (Below.refl _ _) HAP10.out.1.1 HAP10.out.1.2 HIN.out.2
     have hfin := put_done2 (F := fun p => [leafP p]) HIN.out.1 HIN.out.2 hB1 hB2 hB3 hwZ hb9 HRA10.out HAP10.out.2.2 HAP10.out.2.1 HRX10 HNE.out hbn10 hnode hob10 HT.out
     gi_wp2_with fail
     exact ⟨hfin.1 _, hfin.2⟩
    exact AllReadyT.nil
   exact AllReadyT.nil
  ·have hq : (c.r == 10) = false := by simp [h10]
   replace HT : Hid ((pre ++ [x]).flatMap (fun y => [leafP (cutP l y.1)]) = xs ++ [txtN ((c :: P').map (·.r))]) := Lib.hid (by rw [HT.out, show leafP (c :: P') = txtN ((c :: P').map (·.r)) from if_neg h10])
   obtain ⟨P, hP⟩ : ∃ P, c :: P' = P := ⟨_, rfl⟩
   rw [hP] at HT HPX hpl hpz i0 ⊢
   clear hP h10
   unfold maxLen at hpm
   gi_wp2_with fail
   gi_loopw [5, 7, 24] (fun s _ i wr => ∃ (k : Nat) (sv5 : Value), k ≤ P.length ∧ i = .int .i64 k ∧ s = sv5 ∧ Hid (RunesR true wr (fun b => W.heap.size ≤ b) sv5 ((P.take k).map (·.r))) ∧ Hid (Below W.heap.size W wr)) (fun _ _ i _ => P.length - (intOf i).toNat)
   case atStart => exact ⟨0, _, Nat.zero_le _, rfl, rfl, Lib.hid (SliceR.nil _ _ _ _ _ _), Lib.hid (Below.refl _ _)⟩
   case round =>
    obtain ⟨k, sv5, hk, rfl, rfl, HS, HBr⟩ := hrel
    obtain ⟨sa5, sc5, he5⟩ := HS.out.slice
    subst he5
    by_cases hlt2 : k < P.length
    ·obtain ⟨y, hy, _⟩ := getOf P k hlt2
     obtain ⟨b2, o2, e2, hz2, d0, d1, d2⟩ := HPX.out k y hy
     cases e2
     have d0 := (HBr.out.cell (p := ⟨bb, oo + k * 3, none⟩) hz2).trans d0
     have d1 := (HBr.out.cell (p := ⟨bb, oo + k * 3 + 1, none⟩) hz2).trans d1
     have d2 := (HBr.out.cell (p := ⟨bb, oo + k * 3 + 2, none⟩) hz2).trans d2
     have j0 : (0 : Int) ≤ (k : Int) := Int.natCast_nonneg _
     have j1 : (k : Int) < (P.length : Int) := by omega
     have HT2 := Lib.hid (by rw [take_some hy, List.map_append]; rfl : (P.take (k + 1)).map (·.r) = (P.take k).map (·.r) ++ [y.r])
     have hrs := HBr.out.size
     have HRS := Lib.hid hrs
     have hrl : ((P.take k).map (·.r)).length + 1 ≤ 100000000 := by rw [List.length_map, List.length_take]; omega
     have HSX : Hid (∀ X, Below wr.heap.size wr X → RunesR true X (fun b => W.heap.size ≤ b) (.slice sa5 ((P.take k).map (·.r)).length sc5) ((P.take k).map (·.r))) := Lib.hid fun X hX => HS.out.stable (rdOf_stable _) (.all hX) (fun _ h _ => h)
     have hwl : bb < wr.heap.size := by omega
     generalize hrr : (P.take k).map (·.r) = rr at *
     clear hy hrr
     gi_wp2_with (gi_at_builtin; go_must (refine wpListIn_append_R _ rfl _ _ 96 96 rfl rowRn eltRn W.heap.size (.slice sa5 rr.length sc5) _ (xs := rr) (ys := [y.r]) (news := [.int .i32 y.r]) rfl rfl (HSX.out _ (by go_grown)) (by simp; omega) (src_rn _ _ 1 (by simp)) (NewsR.one rfl rfl) hrl ?_); intro v' w8 hR8 hB8 _ _; rw [← HT2.out] at hR8; have HR8 := Lib.hid hR8; have HB8 := Lib.hid hB8; clear hR8 hB8)
     go_roundw
     case rel =>
      refine ⟨k + 1, _, hlt2, by go_num, rfl, HR8, Lib.hid (Below.trans (below_from HBr.out ?_) HB8.out)⟩
      go_grown
     case measure => simp [intOf]; omega
    ·have hkP : k = P.length := by omega
     rw [hkP, List.take_length] at HS
     rw [hkP, List.take_length]
     clear hkP hlt2
     generalize hrr : P.map (·.r) = rr at *
     clear hrr
     have HTx : Hid (∀ X, Below wr.heap.size wr X → Calls Tryz.prog 103 #[.slice sa5 rr.length sc5] X fun e X' => e = .returned (.string ⟨(txtL rr).toArray⟩) ∧ Below X.heap.size X X') := Lib.hid fun X hX => by
      have := textOf_any _ rr X _ ((HS.out.read (fun _ _ g => g)).below (rdOf_stable _) hX)
      rw [show runesBytes rr = ⟨(txtL rr).toArray⟩ by unfold txtL; rw [← runesBytes_eq]] at this
      exact this
     have HTn : Hid (∀ X, Calls Tryz.prog 102 #[.string ⟨(txtL rr).toArray⟩] X fun e X' => e = .returned (.agg #[.int .i64 0, .slice none 0 0, .string ⟨(txtL rr).toArray⟩, .slice none 0 0]) ∧ Below X.heap.size X X') := Lib.hid fun X => text_node (txtL rr) X
     have hb0 : Below W.heap.size W wr.drew := HBr.out.drew
     have hr0 : Below wr.heap.size wr wr.drew := (Below.refl _ _).drew
     have q0 := (blk (HBO.out _ HBr.out)).1
     have g0 := (blk (HBO.out _ HBr.out)).2
     gi_wp2_with fail
     refine wpIn_region_T (fun _ => True) (fun w' => w'.cell? ⟨w.heap.size, 0, none⟩ = some (.slice sv xs.length sc)) 9 (by kernel_rfl) (by kernel_rfl) (fun R hR => ?_)
     refine anyT_take (i := 0) (v := ?_) (by simp only [qA, qZ]; rfl) (by kernel_rfl) (by kernel_rfl) (by kernel_rfl) (by kernel_rfl) (fun _ _ _ h => h) (Or.inl ⟨by rfl, ?_⟩) ⟨trivial, by rw [(blk (HBO.out _ hb0)).1 0]; rfl⟩ ?_
     rotate_left 1
     ·intro w hSw; (try dsimp only at hSw); go_simp; (first | done | with_reducible rfl)
     try simp only [Act.put, qI, qX, qY]
     refine anyT_takeA (i := 1) (v := ?_) (by simp only [qA, qS, qZ]; rfl) (by kernel_rfl) (by kernel_rfl) (by kernel_rfl) (by kernel_rfl) (fun _ _ _ h => h) (Or.inl ⟨by rfl, ?_⟩) (trivial) (Or.inr (by rw [(blk (HBO.out _ hb0)).1 0]; rfl)) ?_
     rotate_left 1
     ·intro w hSw; (try dsimp only at hSw); go_simp; (first | done | with_reducible rfl)
     try simp only [Act.put, qI, qX, qY]
     refine anyT_take (i := 4) (v := ?_) (by simp only [qA, qS, qZ]; rfl) (by kernel_rfl) (by kernel_rfl) (by kernel_rfl) (by kernel_rfl) (fun _ _ _ h => h) (Or.inl ⟨by rfl, ?_⟩) ⟨trivial, by rw [(blk (HBO.out _ hb0)).1 0]; rfl⟩ ?_
     rotate_left 1
     ·intro w hSw; (try dsimp only at hSw); go_simp; (first | done | with_reducible rfl)
     try simp only [Act.put, qI, qX, qY]
     refine anyT_ready (rs := [2, 5]) (by kernel_rfl) (by simp) ?_
     refine AllReadyT.cons (by simp only [qA, qS, qZ]; rfl) (fun K hK => ?_) ?_
     ·go_simp
      refine (HTx.out _ hr0).mono ?_
      rintro e x1 ⟨rfl, hst1⟩
      have hb1 : Below W.heap.size W x1 := below_from hb0 hst1
      have hr1 : Below wr.heap.size wr x1 := below_from hr0 hst1
      refine hK.out _ _ (trivial) (Or.inr (by rw [(blk (HBO.out _ hb1)).1 0]; rfl)) ?_
      clear hK K
      try simp only [Act.put, qI, qX, qY]
      refine anyT_ready (rs := [3, 5]) (by kernel_rfl) (by simp) ?_
      refine AllReadyT.cons (by simp only [qA, qS, qZ]; rfl) (fun K hK => ?_) ?_
      ·go_simp
       refine (HTn.out _).mono ?_
       rintro e x2 ⟨rfl, hst2⟩
       have hb2 : Below W.heap.size W x2 := below_from hb1 hst2
       have hr2 : Below wr.heap.size wr x2 := below_from hr1 hst2
       refine hK.out _ _ (trivial) (Or.inr (by rw [(blk (HBO.out _ hb2)).1 0]; rfl)) ?_
       clear hK K
       try simp only [Act.put, qI, qX, qY]
       refine anyT_ready (rs := [5]) (by kernel_rfl) (by simp) ?_
       refine AllReadyT.cons (by simp only [qA, qS, qZ]; rfl) (fun K hK => ?_) AllReadyT.nil
       go_simp
       obtain ⟨x3, hx3⟩ : ∃ X, (x2.alloc (.cells #[.int .i64 0, .slice none 0 0, .string ⟨#[]⟩, .slice none 0 0] 35)) = X := ⟨_, rfl⟩
       have hst3 : Below x2.heap.size x2 x3 := hx3 ▸ (Below.refl _ _).alloc (Nat.le_refl _) _
       have hz3 : x3.heap[x2.heap.size]? = some (.cells #[.int .i64 0, .slice none 0 0, .string ⟨#[]⟩, .slice none 0 0] 35) := hx3 ▸ heap_new _ _ rfl
       rw [hx3]
       clear hx3
       have hb3 : Below W.heap.size W x3 := below_from hb2 hst3
       have hr3 : Below wr.heap.size wr x3 := below_from hr2 hst3
       refine hK.out _ _ (trivial) (Or.inr (by rw [(blk (HBO.out _ hb3)).1 0]; rfl)) ?_
       clear hK K
       try simp only [Act.put, qI, qX, qY]
       refine anyT_ready (rs := [6]) (by kernel_rfl) (by simp) ?_
       refine AllReadyT.cons (by simp only [qA, qS, qZ]; rfl) (fun K hK => ?_) AllReadyT.nil
       have hbs4 := hb3.size
       have HRX4 := HRW.out _ hb3
       (refine step_append_X (by rfl) _ _ 33 33 (by rfl) rowNod (eltNod 1) w6.heap.size (.slice sv xs.length sc) _ (xs := xs) (ys := [zeroN]) (news := [.int .i64 0, .slice none 0 0, .string ⟨#[]⟩, .slice none 0 0]) (by rfl) (by rfl) HRX4 (Nat.le_trans HIN.out.2 hb3.size) (src_node hz3 (oneV_node zeroN _ _ _ _ _ _) 1) (news_apart (rdNod_stable _ _) HRX4 (Nat.le_trans HIN.out.2 hb3.size) zero_news) hxl ?_)
       intro va4 y4 hra4 hba4 hga4 hor4
       obtain ⟨b4, o4, c4, la4, lc4, ka4, kc4, rfl, hbn4, hbl4, hbh4, hbf4, d0, d1, d2, d3, hcm4⟩ := rowx_last hra4
       have hap4 := app_apart hga4 hor4 HRB.out
       have HAP4 := Lib.hid (And.intro hap4 (And.intro hga4 hba4))
       clear hap4 hor4 hga4
       have HRA4 := Lib.hid hra4
       clear hra4
       have hob4 : y4.heap[w.heap.size]? = some (.cells #[.slice sv xs.length sc] 33) := (hba4.block _ (by have := hZB; have := hbs4; omega)).trans (HBO.out _ hb3)
       obtain ⟨qo4, fo4⟩ := blk hob4
       have ne4 : ¬ b4 = w.heap.size := by have := hZB; omega
       have nf4 : ¬ w.heap.size = b4 := by have := hZB; omega
       have i34 : (0 : Int) ≤ ((xs.length : Nat) : Int) := Int.natCast_nonneg _
       have i44 : ((xs.length : Nat) : Int) < ((xs.length : Nat) : Int) + 1 := by omega
       refine hK.out _ _ (trivial) (Or.inr (by rw [qo4 0]; rfl)) ?_
       clear hK K
       try simp only [Act.put, qI, qX, qY]
       refine anyT_takeA (i := 7) (v := ?_) (by simp only [qA, qS, qZ]; rfl) (by kernel_rfl) (by kernel_rfl) (by kernel_rfl) (by kernel_rfl) (fun _ _ _ h => h) (Or.inl ⟨by rfl, ?_⟩) (trivial) (Or.inr (by rw [qo4 0]; rfl)) ?_
       rotate_left 1
       ·intro w hSw; (try dsimp only at hSw); go_simp; (first | done | with_reducible rfl)
       try simp only [Act.put, qI, qX, qY]
       refine anyT_ready (rs := [8, 9]) (by kernel_rfl) (by simp) ?_
       refine AllReadyT.cons (by simp only [qA, qS, qZ]; rfl) (fun K hK => ?_) ?_
       ·go_simp
        refine hK.out _ _ (trivial) (Or.inr ((setCell_block ne4).trans ((setCell_block ne4).trans ((setCell_block ne4).trans ((setCell_block ne4).trans (by rw [qo4 0]; rfl)))))) ?_
        clear hK K
        try simp only [Act.put, qI, qX, qY]
        refine anyT_ready (rs := [9]) (by kernel_rfl) (by simp) ?_
        refine AllReadyT.cons (by simp only [qA, qS, qZ]; rfl) (fun K hK => ?_) AllReadyT.nil
        go_simp
        refine hK.out _ _ (trivial) (Or.inl (by kernel_rfl)) ?_
        clear hK K
        try simp only [Act.put, qI, qX, qY]
        refine anyT_done (by kernel_rfl) ?_ _
        refine hR.out _ _ ?_
        have hnode := node_ready (h := 0) (n := txtN rr) (SliceR.nil _ _ _ _ _ _) (SliceR.nil _ _ _ _ _ _) (below_from (Below.refl _ _) hst3) HAP4.out.1.1 HAP4.out.1.2 HIN.out.2
        have hfin := put_done (F := fun p => [leafP p]) HIN.out.1 HIN.out.2 hB1 hB2 hB3 hwZ hb3 HRA4.out HAP4.out.2.2 HAP4.out.2.1 HRX4 HNE.out hbn4 hnode hob4 HT.out
        gi_wp2_with fail
        exact ⟨hfin.1 _, hfin.2⟩
       refine AllReadyT.cons (by simp only [qA, qS, qZ]; rfl) (fun K hK => ?_) ?_
       ·go_simp
        refine hK.out _ _ (trivial) (Or.inl (by kernel_rfl)) ?_
        clear hK K
        try simp only [Act.put, qI, qX, qY]
        refine anyT_ready (rs := [8]) (by kernel_rfl) (by simp) ?_
        refine AllReadyT.cons (by simp only [qA, qS, qZ]; rfl) (fun K hK => ?_) AllReadyT.nil
        go_simp
        refine hK.out _ _ (trivial) (Or.inl (by kernel_rfl)) ?_
        clear hK K
        try simp only [Act.put, qI, qX, qY]
        refine anyT_done (by kernel_rfl) ?_ _
        refine hR.out _ _ ?_
        have hnode := node_ready (h := 0) (n := txtN rr) (SliceR.nil _ _ _ _ _ _) (SliceR.nil _ _ _ _ _ _) (below_from (Below.refl _ _) hst3) HAP4.out.1.1 HAP4.out.1.2 HIN.out.2
        have hfin := put_done2 (F := fun p => [leafP p]) HIN.out.1 HIN.out.2 hB1 hB2 hB3 hwZ hb3 HRA4.out HAP4.out.2.2 HAP4.out.2.1 HRX4 HNE.out hbn4 hnode hob4 HT.out
        gi_wp2_with fail
        exact ⟨hfin.1 _, hfin.2⟩
       exact AllReadyT.nil
      refine AllReadyT.cons (by simp only [qA, qS, qZ]; rfl) (fun K hK => ?_) ?_
      ·go_simp
       obtain ⟨x9, hx9⟩ : ∃ X, (x1.alloc (.cells #[.int .i64 0, .slice none 0 0, .string ⟨#[]⟩, .slice none 0 0] 35)) = X := ⟨_, rfl⟩
       have hst9 : Below x1.heap.size x1 x9 := hx9 ▸ (Below.refl _ _).alloc (Nat.le_refl _) _
       have hz9 : x9.heap[x1.heap.size]? = some (.cells #[.int .i64 0, .slice none 0 0, .string ⟨#[]⟩, .slice none 0 0] 35) := hx9 ▸ heap_new _ _ rfl
       rw [hx9]
       clear hx9
       have hb9 : Below W.heap.size W x9 := below_from hb1 hst9
       have hr9 : Below wr.heap.size wr x9 := below_from hr1 hst9
       refine hK.out _ _ (trivial) (Or.inr (by rw [(blk (HBO.out _ hb9)).1 0]; rfl)) ?_
       clear hK K
       try simp only [Act.put, qI, qX, qY]
       refine anyT_ready (rs := [3]) (by kernel_rfl) (by simp) ?_
       refine AllReadyT.cons (by simp only [qA, qS, qZ]; rfl) (fun K hK => ?_) AllReadyT.nil
       go_simp
       refine (HTn.out _).mono ?_
       rintro e x10 ⟨rfl, hst10⟩
       have hb10 : Below W.heap.size W x10 := below_from hb9 hst10
       have hr10 : Below wr.heap.size wr x10 := below_from hr9 hst10
       have hz10 := heap_below hst10 hz9
       refine hK.out _ _ (trivial) (Or.inr (by rw [(blk (HBO.out _ hb10)).1 0]; rfl)) ?_
       clear hK K
       try simp only [Act.put, qI, qX, qY]
       refine anyT_ready (rs := [6]) (by kernel_rfl) (by simp) ?_
       refine AllReadyT.cons (by simp only [qA, qS, qZ]; rfl) (fun K hK => ?_) AllReadyT.nil
       have hbs11 := hb10.size
       have HRX11 := HRW.out _ hb10
       (refine step_append_X (by rfl) _ _ 33 33 (by rfl) rowNod (eltNod 1) w6.heap.size (.slice sv xs.length sc) _ (xs := xs) (ys := [zeroN]) (news := [.int .i64 0, .slice none 0 0, .string ⟨#[]⟩, .slice none 0 0]) (by rfl) (by rfl) HRX11 (Nat.le_trans HIN.out.2 hb10.size) (src_node hz10 (oneV_node zeroN _ _ _ _ _ _) 1) (news_apart (rdNod_stable _ _) HRX11 (Nat.le_trans HIN.out.2 hb10.size) zero_news) hxl ?_)
       intro va11 y11 hra11 hba11 hga11 hor11
       obtain ⟨b11, o11, c11, la11, lc11, ka11, kc11, rfl, hbn11, hbl11, hbh11, hbf11, d0, d1, d2, d3, hcm11⟩ := rowx_last hra11
       have hap11 := app_apart hga11 hor11 HRB.out
       have HAP11 := Lib.hid (And.intro hap11 (And.intro hga11 hba11))
       clear hap11 hor11 hga11
       have HRA11 := Lib.hid hra11
       clear hra11
       have hob11 : y11.heap[w.heap.size]? = some (.cells #[.slice sv xs.length sc] 33) := (hba11.block _ (by have := hZB; have := hbs11; omega)).trans (HBO.out _ hb10)
       obtain ⟨qo11, fo11⟩ := blk hob11
       have ne11 : ¬ b11 = w.heap.size := by have := hZB; omega
       have nf11 : ¬ w.heap.size = b11 := by have := hZB; omega
       have i311 : (0 : Int) ≤ ((xs.length : Nat) : Int) := Int.natCast_nonneg _
       have i411 : ((xs.length : Nat) : Int) < ((xs.length : Nat) : Int) + 1 := by omega
       refine hK.out _ _ (trivial) (Or.inr (by rw [qo11 0]; rfl)) ?_
       clear hK K
       try simp only [Act.put, qI, qX, qY]
       refine anyT_takeA (i := 7) (v := ?_) (by simp only [qA, qS, qZ]; rfl) (by kernel_rfl) (by kernel_rfl) (by kernel_rfl) (by kernel_rfl) (fun _ _ _ h => h) (Or.inl ⟨by rfl, ?_⟩) (trivial) (Or.inr (by rw [qo11 0]; rfl)) ?_
       rotate_left 1
       ·intro w hSw; (try dsimp only at hSw); go_simp; (first | done | with_reducible rfl)
       try simp only [Act.put, qI, qX, qY]
       refine anyT_ready (rs := [8, 9]) (by kernel_rfl) (by simp) ?_
       refine AllReadyT.cons (by simp only [qA, qS, qZ]; rfl) (fun K hK => ?_) ?_
       ·go_simp
        refine hK.out _ _ (trivial) (Or.inr ((setCell_block ne11).trans ((setCell_block ne11).trans ((setCell_block ne11).trans ((setCell_block ne11).trans (by rw [qo11 0]; rfl)))))) ?_
        clear hK K
        try simp only [Act.put, qI, qX, qY]
        refine anyT_ready (rs := [9]) (by kernel_rfl) (by simp) ?_
        refine AllReadyT.cons (by simp only [qA, qS, qZ]; rfl) (fun K hK => ?_) AllReadyT.nil
        go_simp
        refine hK.out _ _ (trivial) (Or.inl (by kernel_rfl)) ?_
        clear hK K
        try simp only [Act.put, qI, qX, qY]
        refine anyT_done (by kernel_rfl) ?_ _
        refine hR.out _ _ ?_
        have hnode := node_ready (h := 0) (n := txtN rr) (SliceR.nil _ _ _ _ _ _) (SliceR.nil _ _ _ _ _ _) (Below.refl _ _) HAP11.out.1.1 HAP11.out.1.2 HIN.out.2
        have hfin := put_done (F := fun p => [leafP p]) HIN.out.1 HIN.out.2 hB1 hB2 hB3 hwZ hb10 HRA11.out HAP11.out.2.2 HAP11.out.2.1 HRX11 HNE.out hbn11 hnode hob11 HT.out
        gi_wp2_with fail
        exact ⟨hfin.1 _, hfin.2⟩
       refine AllReadyT.cons (by simp only [qA, qS, qZ]; rfl) (fun K hK => ?_) ?_
       ·go_simp
        refine hK.out _ _ (trivial) (Or.inl (by kernel_rfl)) ?_
        clear hK K
        try simp only [Act.put, qI, qX, qY]
        refine anyT_ready (rs := [8]) (by kernel_rfl) (by simp) ?_
        refine AllReadyT.cons (by simp only [qA, qS, qZ]; rfl) (fun K hK => ?_) AllReadyT.nil
        go_simp
        refine hK.out _ _ (trivial) (Or.inl (by kernel_rfl)) ?_
        clear hK K
        try simp only [Act.put, qI, qX, qY]
        refine anyT_done (by kernel_rfl) ?_ _
        refine hR.out _ _ ?_
        have hnode := node_ready (h := 0) (n := txtN rr) (SliceR.nil _ _ _ _ _ _) (SliceR.nil _ _ _ _ _ _) (Below.refl _ _) HAP11.out.1.1 HAP11.out.1.2 HIN.out.2
        have hfin := put_done2 (F := fun p => [leafP p]) HIN.out.1 HIN.out.2 hB1 hB2 hB3 hwZ hb10 HRA11.out HAP11.out.2.2 HAP11.out.2.1 HRX11 HNE.out hbn11 hnode hob11 HT.out
        gi_wp2_with fail
        exact ⟨hfin.1 _, hfin.2⟩
       exact AllReadyT.nil
      exact AllReadyT.nil
     refine AllReadyT.cons (by simp only [qA, qS, qZ]; rfl) (fun K hK => ?_) ?_
     ·go_simp
      obtain ⟨x16, hx16⟩ : ∃ X, (wr.alloc (.cells #[.int .i64 0, .slice none 0 0, .string ⟨#[]⟩, .slice none 0 0] 35)).drew = X := ⟨_, rfl⟩
      have hst16 : Below wr.heap.size wr x16 := hx16 ▸ ((Below.refl _ _).alloc (Nat.le_refl _) _).drew
      have hz16 : x16.heap[wr.heap.size]? = some (.cells #[.int .i64 0, .slice none 0 0, .string ⟨#[]⟩, .slice none 0 0] 35) := hx16 ▸ (show ((wr.alloc (.cells #[.int .i64 0, .slice none 0 0, .string ⟨#[]⟩, .slice none 0 0] 35)).drew).heap[wr.heap.size]? = _ from heap_new _ _ rfl)
      rw [hx16]
      clear hx16
      have hb16 : Below W.heap.size W x16 := below_from HBr.out hst16
      have hr16 : Below wr.heap.size wr x16 := hst16
      refine hK.out _ _ (trivial) (Or.inr (by rw [(blk (HBO.out _ hb16)).1 0]; rfl)) ?_
      clear hK K
      try simp only [Act.put, qI, qX, qY]
      refine anyT_ready (rs := [2]) (by kernel_rfl) (by simp) ?_
      refine AllReadyT.cons (by simp only [qA, qS, qZ]; rfl) (fun K hK => ?_) AllReadyT.nil
      go_simp
      refine (HTx.out _ hr16).mono ?_
      rintro e x17 ⟨rfl, hst17⟩
      have hb17 : Below W.heap.size W x17 := below_from hb16 hst17
      have hr17 : Below wr.heap.size wr x17 := below_from hr16 hst17
      have hz17 := heap_below hst17 hz16
      refine hK.out _ _ (trivial) (Or.inr (by rw [(blk (HBO.out _ hb17)).1 0]; rfl)) ?_
      clear hK K
      try simp only [Act.put, qI, qX, qY]
      refine anyT_ready (rs := [3]) (by kernel_rfl) (by simp) ?_
      refine AllReadyT.cons (by simp only [qA, qS, qZ]; rfl) (fun K hK => ?_) AllReadyT.nil
      go_simp
      refine (HTn.out _).mono ?_
      rintro e x18 ⟨rfl, hst18⟩
      have hb18 : Below W.heap.size W x18 := below_from hb17 hst18
      have hr18 : Below wr.heap.size wr x18 := below_from hr17 hst18
      have hz18 := heap_below hst18 hz17
      refine hK.out _ _ (trivial) (Or.inr (by rw [(blk (HBO.out _ hb18)).1 0]; rfl)) ?_
      clear hK K
      try simp only [Act.put, qI, qX, qY]
      refine anyT_ready (rs := [6]) (by kernel_rfl) (by simp) ?_
      refine AllReadyT.cons (by simp only [qA, qS, qZ]; rfl) (fun K hK => ?_) AllReadyT.nil
      have hbs19 := hb18.size
      have HRX19 := HRW.out _ hb18
      (refine step_append_X (by rfl) _ _ 33 33 (by rfl) rowNod (eltNod 1) w6.heap.size (.slice sv xs.length sc) _ (xs := xs) (ys := [zeroN]) (news := [.int .i64 0, .slice none 0 0, .string ⟨#[]⟩, .slice none 0 0]) (by rfl) (by rfl) HRX19 (Nat.le_trans HIN.out.2 hb18.size) (src_node hz18 (oneV_node zeroN _ _ _ _ _ _) 1) (news_apart (rdNod_stable _ _) HRX19 (Nat.le_trans HIN.out.2 hb18.size) zero_news) hxl ?_)
      intro va19 y19 hra19 hba19 hga19 hor19
      obtain ⟨b19, o19, c19, la19, lc19, ka19, kc19, rfl, hbn19, hbl19, hbh19, hbf19, d0, d1, d2, d3, hcm19⟩ := rowx_last hra19
      have hap19 := app_apart hga19 hor19 HRB.out
      have HAP19 := Lib.hid (And.intro hap19 (And.intro hga19 hba19))
      clear hap19 hor19 hga19
      have HRA19 := Lib.hid hra19
      clear hra19
      have hob19 : y19.heap[w.heap.size]? = some (.cells #[.slice sv xs.length sc] 33) := (hba19.block _ (by have := hZB; have := hbs19; omega)).trans (HBO.out _ hb18)
      obtain ⟨qo19, fo19⟩ := blk hob19
      have ne19 : ¬ b19 = w.heap.size := by have := hZB; omega
      have nf19 : ¬ w.heap.size = b19 := by have := hZB; omega
      have i319 : (0 : Int) ≤ ((xs.length : Nat) : Int) := Int.natCast_nonneg _
      have i419 : ((xs.length : Nat) : Int) < ((xs.length : Nat) : Int) + 1 := by omega
      refine hK.out _ _ (trivial) (Or.inr (by rw [qo19 0]; rfl)) ?_
      clear hK K
      try simp only [Act.put, qI, qX, qY]
      refine anyT_takeA (i := 7) (v := ?_) (by simp only [qA, qS, qZ]; rfl) (by kernel_rfl) (by kernel_rfl) (by kernel_rfl) (by kernel_rfl) (fun _ _ _ h => h) (Or.inl ⟨by rfl, ?_⟩) (trivial) (Or.inr (by rw [qo19 0]; rfl)) ?_
      rotate_left 1
      ·intro w hSw; (try dsimp only at hSw); go_simp; (first | done | with_reducible rfl)
      try simp only [Act.put, qI, qX, qY]
      refine anyT_ready (rs := [8, 9]) (by kernel_rfl) (by simp) ?_
      refine AllReadyT.cons (by simp only [qA, qS, qZ]; rfl) (fun K hK => ?_) ?_
      ·go_simp
       refine hK.out _ _ (trivial) (Or.inr ((setCell_block ne19).trans ((setCell_block ne19).trans ((setCell_block ne19).trans ((setCell_block ne19).trans (by rw [qo19 0]; rfl)))))) ?_
       clear hK K
       try simp only [Act.put, qI, qX, qY]
       refine anyT_ready (rs := [9]) (by kernel_rfl) (by simp) ?_
       refine AllReadyT.cons (by simp only [qA, qS, qZ]; rfl) (fun K hK => ?_) AllReadyT.nil
       go_simp
       refine hK.out _ _ (trivial) (Or.inl (by kernel_rfl)) ?_
       clear hK K
       try simp only [Act.put, qI, qX, qY]
       refine anyT_done (by kernel_rfl) ?_ _
       refine hR.out _ _ ?_
       have hnode := node_ready (h := 0) (n := txtN rr) (SliceR.nil _ _ _ _ _ _) (SliceR.nil _ _ _ _ _ _) (Below.refl _ _) HAP19.out.1.1 HAP19.out.1.2 HIN.out.2
       have hfin := put_done (F := fun p => [leafP p]) HIN.out.1 HIN.out.2 hB1 hB2 hB3 hwZ hb18 HRA19.out HAP19.out.2.2 HAP19.out.2.1 HRX19 HNE.out hbn19 hnode hob19 HT.out
       gi_wp2_with fail
       exact ⟨hfin.1 _, hfin.2⟩
      refine AllReadyT.cons (by simp only [qA, qS, qZ]; rfl) (fun K hK => ?_) ?_
      ·go_simp
       refine hK.out _ _ (trivial) (Or.inl (by kernel_rfl)) ?_
       clear hK K
       try simp only [Act.put, qI, qX, qY]
       refine anyT_ready (rs := [8]) (by kernel_rfl) (by simp) ?_
       refine AllReadyT.cons (by simp only [qA, qS, qZ]; rfl) (fun K hK => ?_) AllReadyT.nil
       go_simp
       refine hK.out _ _ (trivial) (Or.inl (by kernel_rfl)) ?_
       clear hK K
       try simp only [Act.put, qI, qX, qY]
       refine anyT_done (by kernel_rfl) ?_ _
       refine hR.out _ _ ?_
       have hnode := node_ready (h := 0) (n := txtN rr) (SliceR.nil _ _ _ _ _ _) (SliceR.nil _ _ _ _ _ _) (Below.refl _ _) HAP19.out.1.1 HAP19.out.1.2 HIN.out.2
       have hfin := put_done2 (F := fun p => [leafP p]) HIN.out.1 HIN.out.2 hB1 hB2 hB3 hwZ hb18 HRA19.out HAP19.out.2.2 HAP19.out.2.1 HRX19 HNE.out hbn19 hnode hob19 HT.out
       gi_wp2_with fail
       exact ⟨hfin.1 _, hfin.2⟩
      exact AllReadyT.nil
     exact AllReadyT.nil
 case done =>
  rintro D ys W hD hys ⟨v9, t0, hR, hne, hb, hz⟩ hK
  have e : (ys.flatMap fun y : PartX l => [leafP (cutP l y.1)]) = leavesN l := by
   rw [flat_one]
   unfold leavesN
   rw [← hys, List.map_map]
   rfl
  rw [e] at hR
  have hrow := RwX.row (rdNod_stable _ _) ((rowx_own D w6.heap.size 1 v9 (fun _ : Unit => leavesN l)).putObj (s := ()) (.deferred none) hR (Nat.le_refl _) hK rfl)
  obtain ⟨s0, s0f⟩ := blk t0
  obtain ⟨va9, c9, rfl⟩ := hR.slice
  have HROW := Lib.hid hrow
  have HB9 := Lib.hid hb
  have HK9 := Lib.hid hK
  clear hR hb hK hne hrow e
  generalize (leavesN l).length = n9 at *
  gi_wp2_with fail
  refine ⟨by simp, .inl ⟨_, _, rfl, run_takeDeferred HK9.out, ?_⟩⟩
  refine ⟨.slice va9 n9 c9, by simp [results, Tryz.results93, go_sem], ?_⟩
  exact ⟨_, rfl, SliceR.stable (rdNod_stable _ _) HROW.out (Keeps.refl _ _) (fun b h _ => Nat.le_trans hb6.size h), HB9.out.trans (belowK_b (w := w) (Nat.le_refl _) W D _ _ (by omega) HK9.out rfl rfl)⟩
end Go.Proofs.YteognfhemmogpaaGreatDoor
namespace Go.Proofs.Qw
open Go.RowKit Go.Proofs.YteognfhemmogpaaGreatDoor
theorem fitK_of : ∀ {l : List Nod}, (∀ n ∈ l, FitN n) → FitK l
 | [], _ => trivial
 | k :: ks, h => ⟨h k (by simp), fitK_of fun n hn => h n (by simp [hn])⟩
theorem flat_le {α β : Type} (f : α → List β) (g : α → Nat) : ∀ l : List α, (∀ x ∈ l, (f x).length ≤ g x) → (l.flatMap f).length ≤ (l.map g).sum
 | [], _ => by simp
 | x :: l, h => by
  rw [List.flatMap_cons, List.length_append, List.map_cons, List.sum_cons]
  have h1 := h x (by simp)
  have h2 := flat_le f g l (fun y hy => h y (by simp [hy]))
  omega
theorem flat_le_all {α β : Type} (f : α → List β) (B : Nat) (l : List α) (h : ∀ x, (f x).length ≤ B) : (l.flatMap f).length ≤ l.length * B := by
 have h1 := flat_le f (fun _ => B) l (fun x _ => h x)
 have h2 : (l.map (fun _ => B)).sum = l.length * B := by
  clear h1 h
  induction l with
  | nil => simp
  | cons x l ih => rw [List.map_cons, List.sum_cons, ih, List.length_cons, Nat.succ_mul]; omega
 omega
theorem parts_sum {α : Type} (r : α → α → Bool) (l : List α) : ((partsBy r l).map List.length).sum = l.length := by
 have h := congrArg List.length (parts_flat r l.length l (Nat.le_refl _))
 rw [List.length_flatten] at h
 exact h
theorem part_len {α : Type} {r : α → α → Bool} {l p : List α} (hp : p ∈ partsBy r l) : p.length ≤ l.length := by
 have h := parts_sum r l
 have : ∀ (ps : List (List α)), p ∈ ps → p.length ≤ (ps.map List.length).sum := by
  intro ps
  induction ps with
  | nil => intro h; cases h
  | cons q ps ih =>
   intro h
   rw [List.map_cons, List.sum_cons]
   rcases List.mem_cons.1 h with rfl | h
   ·omega
   ·have := ih h; omega
 have := this _ hp
 omega
theorem gr_len : ∀ (ks : List (Cel → Option Wr)) (l : List Cel), (gr ks l).length ≤ l.length
 | [], l => by
  unfold gr leavesN
  rw [List.length_map]
  have h := parts_sum textR l
  have hne := parts_ne textR l.length l (Nat.le_refl _)
  have : ∀ ps : List (List Cel), (∀ p ∈ ps, p ≠ []) → ps.length ≤ (ps.map List.length).sum := by
   intro ps
   induction ps with
   | nil => intro _; simp
   | cons q ps ih =>
    intro h
    rw [List.map_cons, List.sum_cons, List.length_cons]
    have h1 := ih (fun p hp => h p (by simp [hp]))
    have h2 := List.length_pos_iff.2 (h q (by simp))
    omega
  have := this _ hne
  omega
 | k :: ks, l => by
  unfold gr
  have h := parts_sum (fun a b => decide (k a = k b)) l
  have h1 := flat_le (fun p : List Cel => wrapO (k (p.headD default)) (gr ks p)) List.length (partsBy (fun a b => decide (k a = k b)) l) (fun p hp => by
   have hne := parts_ne _ l.length l (Nat.le_refl _) p hp
   have hpos := List.length_pos_iff.2 hne
   cases k (p.headD default) with
   | none => exact gr_len ks p
   | some w => simp only [wrapO, List.length_singleton]; omega)
  omega
theorem leaf_fit (p : List Cel) : FitN (leafP p) := by
 unfold leafP
 split
 ·exact ⟨by simp, by simp, trivial⟩
 ·exact ⟨by simp, by simp, trivial⟩
theorem gr_fit : ∀ (ks : List (Cel → Option Wr)) (l : List Cel), l.length ≤ 1000000 → (∀ k ∈ ks, ∀ c w, k c = some w → w.2.length ≤ 1000000) → FitK (gr ks l)
 | [], l, _, _ => by
  unfold gr leavesN
  exact fitK_of fun n hn => by
   obtain ⟨p, _, rfl⟩ := List.mem_map.1 hn
   exact leaf_fit p
 | k :: ks, l, hl, hk => by
  unfold gr
  refine fitK_of fun n hn => ?_
  obtain ⟨p, hp, hn⟩ := List.mem_flatMap.1 hn
  have hpl := part_len hp
  have ih := gr_fit ks p (by omega) (fun k' hk' => hk k' (by simp [hk']))
  cases hw : k (p.headD default) with
  | none =>
   rw [hw] at hn
   exact fit_mem ih hn
  | some w =>
   rw [hw] at hn
   have hn : n = .mk w.1 w.2 [] (gr ks p) := by simpa [wrapO] using hn
   subst hn
   have := gr_len ks p
   exact ⟨hk k (by simp) _ _ hw, by omega, ih⟩
theorem bitsK_fit (n : Nat) : ∀ k ∈ bitsK n, ∀ c w, k c = some w → w.2.length ≤ 1000000 := by
 induction n with
 | zero => intro k hk; cases hk
 | succ n ih =>
  intro k hk c w hw
  rcases List.mem_cons.1 hk with rfl | hk
  ·unfold lvBit at hw
   split at hw
   ·cases hw
   ·cases hw; simp
  ·exact ih k hk c w hw
theorem href_fit (c : Cel) (w : Wr) (h : lvHref c = some w) : w.2.length ≤ 1000000 := by
 unfold lvHref hrefA at h
 split at h
 ·cases h
 ·cases h; simp
theorem rowK_fit : ∀ k ∈ rowK, ∀ c w, k c = some w → w.2.length ≤ 1000000 := by
 intro k hk c w hw
 rcases List.mem_cons.1 hk with rfl | hk
 ·exact href_fit c w hw
 ·exact bitsK_fit 4 k hk c w hw
theorem wrapO_len (w : Option Wr) {ns : List Nod} {p : List Cel} (hp : p ≠ []) (h : ns.length ≤ p.length) : (wrapO w ns).length ≤ p.length := by
 cases w with
 | none => exact h
 | some w => exact List.length_pos_iff.2 hp
end Go.Proofs.Qw
