/- The walks of tags.Line, render.node; how long the nodes of lines are. -/
import Derived.Test.YteognfhemmogpaaGreatDoorRenStyledP
import Derived.Test.YteognfhemmogpaaGreatDoorRenPartsP
import Derived.Test.YteognfhemmogpaaGreatDoorRenBaseP
import Derived.Test.YteognfhemmogpaaGreatDoorDocPosP
import Derived.Test.YteognfhemmogpaaGreatDoorShelf
set_option linter.unusedVariables false
set_option linter.unusedSimpArgs false
namespace Go.Proofs.Qw
open Go.RowKit Go.Proofs.YteognfhemmogpaaGreatDoor
theorem host_len (leaf : Lin → Nod) : ∀ (n lv : Nat) (d : List Lin), (hostL leaf n lv d).length ≤ d.length
 | 0, _, d => by unfold hostL; simp
 | n + 1, lv, d => by
  unfold hostL
  have h := parts_sum (stepR lv) d
  have h1 := flat_le (fun p : List Lin => if stepL lv (p.headD default) ≠ 0 then [Nod.mk (stepL lv (p.headD default)) [] [] (hostL leaf n (lv + 1) p)] else [leaf (p.headD default)]) List.length (partsBy (stepR lv) d) (fun p hp => by
   have hpos := List.length_pos_iff.2 (parts_ne _ d.length d (Nat.le_refl _) p hp)
   split
   ·simp only [List.length_singleton]; omega
   ·simp only [List.length_singleton]; omega)
  omega
theorem line_fit {l : Lin} (h : l.cells.length ≤ 1000000) : FitN (lineN (gr rowK) l) := ⟨by simp, Nat.le_trans (gr_len _ _) h, gr_fit rowK l.cells h rowK_fit⟩
theorem host_fit : ∀ (n lv : Nat) (d : List Lin), d.length ≤ 1000000 → (∀ l ∈ d, l.cells.length ≤ 1000000) → FitK (hostL (lineN (gr rowK)) n lv d)
 | 0, _, d, _, hd => by
  unfold hostL
  exact fitK_of fun n hn => by
   obtain ⟨l, hl, rfl⟩ := List.mem_map.1 hn
   exact line_fit (hd l hl)
 | n + 1, lv, d, hl, hd => by
  unfold hostL
  refine fitK_of fun x hx => ?_
  obtain ⟨p, hp, hx⟩ := List.mem_flatMap.1 hx
  have hpl := part_len hp
  have hsub : ∀ l ∈ p, l ∈ d := fun l hl => by
   have := parts_flat (stepR lv) d.length d (Nat.le_refl _)
   rw [← this]
   exact List.mem_flatten.2 ⟨p, hp, hl⟩
  split at hx
  ·have hx : x = .mk (stepL lv (p.headD default)) [] [] (hostL (lineN (gr rowK)) n (lv + 1) p) := by simpa using hx
   subst hx
   have := host_len (lineN (gr rowK)) n (lv + 1) p
   exact ⟨by simp, by omega, host_fit n (lv + 1) p (by omega) (fun l hl => hd l (hsub l hl))⟩
  ·have hx : x = lineN (gr rowK) (p.headD default) := by simpa using hx
   subst hx
   have hne := parts_ne _ d.length d (Nat.le_refl _) p hp
   cases p with
   | nil => exact absurd rfl hne
   | cons a p => exact line_fit (hd a (hsub a (by simp)))
end Go.Proofs.Qw
namespace Go.Proofs.YteognfhemmogpaaGreatDoor
open Go.RowKit
open Go.Proofs.Qw
attribute [local go_sem ↓] Go.wp_at_zero Go.wp_at_succ
set_option maxHeartbeats 1000000 in
theorem tagsLine_ok (k : Int) (h0 : 0 ≤ k) (h3 : k ≤ 3) (w : World) : Calls Tryz.prog 71 #[.int .i64 k] w fun e w' => e = .returned (.tuple #[.int .i64 (k + 2), .bool true]) ∧ w' = w := by
 have e1 : decide (k < 0) = false := by simp; omega
 have e2 : decide (3 < k) = false := by simp; omega
 have e3 : IntKind.i64.wrap (2 + k) = k + 2 := by rw [IntKind.wrap_i64]; omega
 go_enter Tryz.func71, Tryz.ntmps71
 go_wp2
 go_ret2
 exact ⟨by simp, rfl⟩
set_option maxRecDepth 100000 in
set_option maxHeartbeats 4000000 in
theorem node_any (l : Lin) (la : Option Addr) (lc : Nat) (ca : Option Addr) (cc : Nat) (w w0 : World) (S : Nat → Prop) (hc : CelsR false w0 S (.slice ca l.cells.length cc) l.cells) (h0 : Below w0.heap.size w0 w) (hk0 : 0 ≤ l.kind) (hk3 : l.kind ≤ 3) (hcl : l.cells.length ≤ 6000) :
  Calls Tryz.prog 49 #[.agg #[.int .i64 l.quote, .slice la l.lists.length lc, .int .i64 l.kind, .slice ca l.cells.length cc]] w fun e w' => ∃ k', e = .returned (nodV (lineN (gr rowK) l) (.slice none 0 0) k') ∧ NodsR true 26 w' (fun b => w.heap.size ≤ b) k' (gr rowK l.cells) ∧ Below w.heap.size w w' := by
 have HR : Hid (∀ X, Below w.heap.size w X → Calls Tryz.prog 72 #[.slice ca l.cells.length cc] X fun e X' => ∃ ka kc, e = .returned (.slice ka (gr rowK l.cells).length kc) ∧ NodsR true 26 X' (fun b => X.heap.size ≤ b) (.slice ka (gr rowK l.cells).length kc) (gr rowK l.cells) ∧ Below X.heap.size X X') := Lib.hid fun X hX => (row_any _ l.cells X w0 S hc (below_from h0 hX) hcl).mono fun _ _ ⟨v', h1, h2, h3⟩ => by
  obtain ⟨ka, kc, rfl⟩ := h2.slice
  exact ⟨ka, kc, h1, h2, h3⟩
 have hgl := gr_len rowK l.cells
 have hgf := gr_fit rowK l.cells (by omega) rowK_fit
 have HE : Hid (∀ X X0 ka kc (t : Int), NodsR true 26 X (fun b => X0 ≤ b) (.slice ka (gr rowK l.cells).length kc) (gr rowK l.cells) → Calls Tryz.prog 24 #[.int .i64 t, .slice ka (gr rowK l.cells).length kc] X fun e X' => ∃ ka kc, e = .returned (.agg #[.int .i64 t, .slice none 0 0, .string ⟨#[]⟩, .slice ka (gr rowK l.cells).length kc]) ∧ NodsR true 26 X' (fun b => X.heap.size ≤ b) (.slice ka (gr rowK l.cells).length kc) (gr rowK l.cells) ∧ Below X.heap.size X X') := Lib.hid fun X X0 ka kc t hk => (elem_any 26 t _ _ true X X _ hk (Below.refl _ _) (by omega) hgf).mono fun _ _ ⟨k', h1, h2, h3⟩ => by
  obtain ⟨ka, kc, rfl⟩ := h2.slice
  exact ⟨ka, kc, h1, h2, h3⟩
 have HT := Lib.hid (fun X => tagsLine_ok l.kind hk0 hk3 X)
 obtain ⟨W1, hW1, hB, hz, hB0, hB1⟩ : ∃ W1, (w.alloc (.cells #[.int .i64 l.quote, .slice la l.lists.length lc, .int .i64 l.kind, .slice ca l.cells.length cc] 31)).alloc (.cells #[.int .i64 0, .slice none 0 0, .string ⟨#[]⟩, .slice none 0 0] 35) = W1 ∧ Below w.heap.size w W1 ∧ w.heap.size + 2 = W1.heap.size ∧ W1.heap[w.heap.size]? = some (.cells #[.int .i64 l.quote, .slice la l.lists.length lc, .int .i64 l.kind, .slice ca l.cells.length cc] 31) ∧ W1.heap[w.heap.size + 1]? = some (.cells #[.int .i64 0, .slice none 0 0, .string ⟨#[]⟩, .slice none 0 0] 35) :=
  ⟨_, rfl, ((Below.refl _ _).alloc (Nat.le_refl _) _).alloc (by simp) _, by simp, heap_old _ _ (heap_new _ _ rfl), heap_new _ _ (by simp)⟩
 have H1 := Lib.hid hB1
 have HB := Lib.hid hB
 have HZ := Lib.hid hz
 obtain ⟨p0, f0⟩ := blk hB0
 obtain ⟨p1, f1⟩ := blk hB1
 generalize hG : gr rowK l.cells = G at *
 have HN : Hid (lineN (gr rowK) l = .mk (if l.lists ≠ [] then 9 else l.kind + 2) [] [] G) := Lib.hid (by unfold lineN; rw [hG])
 clear hc h0 hgl hgf hG hz hB hB1
 have HNp : Hid (0 < l.lists.length → lineN (gr rowK) l = .mk 9 [] [] G) := Lib.hid fun hl => by rw [HN.out, if_pos (fun e => by rw [e] at hl; cases hl)]
 have HNn : Hid (¬ 0 < l.lists.length → lineN (gr rowK) l = .mk (l.kind + 2) [] [] G) := Lib.hid fun hl => by rw [HN.out, if_neg (fun e => e (List.length_eq_zero_iff.1 (by omega)))]
 generalize l.lists.length = ln at *
 by_cases hl : 0 < ln
 ·have hd : decide (0 < (ln : Int)) = true := decide_eq_true (by omega)
  have hd2 : decide (0 < ln) = true := decide_eq_true hl
  rw [HNp.out hl]
  go_enter Tryz.func49, Tryz.ntmps49
  go_wp2_with (first
   | (go_at_call 71; refine (HT.out _).mono ?_; rintro e w2 ⟨rfl, hw2⟩; subst hw2)
   | (go_at_call 72; refine (HR.out _ HB.out).mono ?_; rintro e w3 ⟨ka, kc, rfl, hk3', hb3⟩; have HK3 := Lib.hid hk3'; clear hk3')
   | (go_at_call 24; refine (HE.out _ _ _ _ _ HK3.out).mono ?_; rintro e w4 ⟨ka4, kc4, rfl, hk4, hb4⟩; have HK4 := Lib.hid hk4; clear hk4; have hb34 := below_from hb3 hb4; have hB4 := heap_below hb34 H1.out; obtain ⟨q1, g1⟩ := blk hB4))
  have z := HZ.out
  have hz3 := hb3.size
  have hz4 := hb4.size
  refine bodyPost_ret (results_node rfl _ _ (w.heap.size + 1) (.int .i64 9) (.slice none 0 0) (.string ⟨#[]⟩) (.slice ka4 G.length kc4) rfl (by simp [heap_set, putIn, hB4])) rfl ?_
  refine ⟨_, rfl, HK4.out.stable (rdNod_stable _ _) (((((Keeps.refl _ _).set (by simp; omega) _).set (by simp; omega) _).set (by simp; omega) _).set (by simp; omega) _) (fun b h _ => ?_), ?_⟩
  ·have h : w3.heap.size ≤ b := h
   show w.heap.size ≤ b
   omega
  ·have hbb := HB.out.trans (hb34.mono (by omega))
   exact (((hbb.setCell (by simp) _).setCell (by simp) _).setCell (by simp) _).setCell (by simp) _
 ·have hd : decide (0 < (ln : Int)) = false := decide_eq_false (by omega)
  have hd2 : decide (0 < ln) = false := decide_eq_false hl
  rw [HNn.out hl]
  go_enter Tryz.func49, Tryz.ntmps49
  go_wp2_with (first
   | (go_at_call 71; refine (HT.out _).mono ?_; rintro e w2 ⟨rfl, hw2⟩; subst hw2)
   | (go_at_call 72; refine (HR.out _ HB.out).mono ?_; rintro e w3 ⟨ka, kc, rfl, hk3', hb3⟩; have HK3 := Lib.hid hk3'; clear hk3')
   | (go_at_call 24; refine (HE.out _ _ _ _ _ HK3.out).mono ?_; rintro e w4 ⟨ka4, kc4, rfl, hk4, hb4⟩; have HK4 := Lib.hid hk4; clear hk4; have hb34 := below_from hb3 hb4; have hB4 := heap_below hb34 H1.out; obtain ⟨q1, g1⟩ := blk hB4))
  have z := HZ.out
  have hz3 := hb3.size
  have hz4 := hb4.size
  refine bodyPost_ret (results_node rfl _ _ (w.heap.size + 1) (.int .i64 (l.kind + 2)) (.slice none 0 0) (.string ⟨#[]⟩) (.slice ka4 G.length kc4) rfl (by simp [heap_set, putIn, hB4])) rfl ?_
  refine ⟨_, rfl, HK4.out.stable (rdNod_stable _ _) (((((Keeps.refl _ _).set (by simp; omega) _).set (by simp; omega) _).set (by simp; omega) _).set (by simp; omega) _) (fun b h _ => ?_), ?_⟩
  ·have h : w3.heap.size ≤ b := h
   show w.heap.size ≤ b
   omega
  ·have hbb := HB.out.trans (hb34.mono (by omega))
   exact (((hbb.setCell (by simp) _).setCell (by simp) _).setCell (by simp) _).setCell (by simp) _
end Go.Proofs.YteognfhemmogpaaGreatDoor
namespace Go.Proofs.YteognfhemmogpaaGreatDoor
open Go.RowKit
open Go.Proofs.Qw
attribute [local go_sem] Oper.semAt_some
theorem setRow_heap_ne2 (w : World) (g : Nat) (cs : Array Value) {b : Nat} (h : b ≠ g) : (w.setRow g cs).heap[b]? = w.heap[b]? := by
 unfold World.setRow
 simp only [Array.getElem?_modify]
 rw [if_neg (Ne.symm h)]
theorem setRow_below2 {n g : Nat} {w W : World} {cs : Array Value} (h : Below n w W) (hg : n ≤ g) : Below n w (W.setRow g cs) :=
 h.trans ⟨rfl, rfl, rfl, by simp [World.setRow], fun k hk => setRow_heap_ne2 _ _ _ (by omega)⟩
theorem results_tags {fn : Func} {p : Tmp} (h : fn.results = #[.cell p 119]) (tmps : Array Value) (w : World) (B : Nat) (vs : Array Value) (hp : tmps.getD p undef = .pointer (some ⟨B, 0, none⟩))
  (hB : w.heap[B]? = some (.cells vs 119)) (hs : (Tryz.prog.info? 119).map (·.size) = some vs.size) : (results fn tmps).run Tryz.prog w = .ok (.agg vs) w := by
 have h1 := run_loadVar_row (P := Tryz.prog) w B 119 119 _ _ _ hB Tryz.underlying119 rfl hs
 have hp' : tmps[p]?.getD undef = .pointer (some ⟨B, 0, none⟩) := by simpa using hp
 simp [results, h, hp', asAddr, h1]
def tagV (B1 B2 B3 B4 B5 B6 B7 B8 B9 B10 B11 B12 B13 B14 B15 B16 : Nat) : Array Value := #[.slice none 0 0, .int .i64 1, .slice (some ⟨B1, 0, none⟩) 1 1, .int .i64 2, .slice (some ⟨B2, 0, none⟩) 1 1, .int .i64 3, .slice (some ⟨B3, 0, none⟩) 1 1, .int .i64 3, .slice (some ⟨B4, 0, none⟩) 1 1, .int .i64 3, .slice (some ⟨B5, 0, none⟩) 1 1, .int .i64 3, .slice (some ⟨B6, 0, none⟩) 1 1, .int .i64 2, .slice (some ⟨B7, 0, none⟩) 1 1, .int .i64 2, .slice (some ⟨B8, 0, none⟩) 1 1, .int .i64 2, .slice (some ⟨B9, 0, none⟩) 1 1, .int .i64 3, .slice (some ⟨B10, 0, none⟩) 1 1, .int .i64 4, .slice (some ⟨B11, 0, none⟩) 2 2, .int .i64 4, .slice (some ⟨B12, 0, none⟩) 2 2, .int .i64 4, .slice (some ⟨B13, 0, none⟩) 2 2, .int .i64 4, .slice (some ⟨B14, 0, none⟩) 3 3, .int .i64 4, .slice (some ⟨B15, 0, none⟩) 1 1, .int .i64 4, .slice (some ⟨B16, 0, none⟩) 1 1, .int .i64 5]
set_option maxRecDepth 100000 in
set_option maxHeartbeats 4000000 in
theorem tagTab_ok (w : World) : Calls Tryz.prog 76 #[] w fun e w' => (∃ B1 B2 B3 B4 B5 B6 B7 B8 B9 B10 B11 B12 B13 B14 B15 B16, e = .returned (.agg (tagV B1 B2 B3 B4 B5 B6 B7 B8 B9 B10 B11 B12 B13 B14 B15 B16))) ∧ Below w.heap.size w w' := by
 go_enter Tryz.func76, Tryz.ntmps76
 go_upto_region 1 with fail
 generalize hW : World.alloc w _ = W0
 have hz : W0.heap[w.heap.size]? = some (.cells #[.slice none 0 0, .int .i64 0, .slice none 0 0, .int .i64 0, .slice none 0 0, .int .i64 0, .slice none 0 0, .int .i64 0, .slice none 0 0, .int .i64 0, .slice none 0 0, .int .i64 0, .slice none 0 0, .int .i64 0, .slice none 0 0, .int .i64 0, .slice none 0 0, .int .i64 0, .slice none 0 0, .int .i64 0, .slice none 0 0, .int .i64 0, .slice none 0 0, .int .i64 0, .slice none 0 0, .int .i64 0, .slice none 0 0, .int .i64 0, .slice none 0 0, .int .i64 0, .slice none 0 0, .int .i64 0, .slice none 0 0, .int .i64 0] 119) := hW ▸ heap_new _ _ rfl
 have hw0 : Below w.heap.size w W0 := hW ▸ (Below.refl _ _).alloc (Nat.le_refl _) _
 have hlt : w.heap.size < W0.heap.size := by rw [← hW]; simp
 clear hW
 have hb0 : Below W0.heap.size W0 W0 := Below.refl _ _
 refine wp_region_lit ?_
 refine wpList_build rfl _ _ rfl (by kernel_rfl) ?_
 try simp only [Act.put, qI, qX, qY]
 refine wpList_plain rfl fun K hK => ?_
 go_simp
 generalize hW1 : World.alloc W0 _ = W1
 have hb1 : Below W0.heap.size W0 W1 := hW1 ▸ hb0.alloc hb0.size _
 generalize hB1 : W0.heap.size = B1
 clear hW1 hB1
 refine hK _ _ ?_
 clear hK K
 try simp only [Act.put, qI, qX, qY]
 refine wpList_build rfl _ _ rfl (by kernel_rfl) ?_
 try simp only [Act.put, qI, qX, qY]
 refine wpList_plain rfl fun K hK => ?_
 go_simp
 generalize hW2 : World.alloc W1 _ = W2
 have hb2 : Below W0.heap.size W0 W2 := hW2 ▸ hb1.alloc hb1.size _
 generalize hB2 : W1.heap.size = B2
 clear hW2 hB2
 refine hK _ _ ?_
 clear hK K
 try simp only [Act.put, qI, qX, qY]
 refine wpList_build rfl _ _ rfl (by kernel_rfl) ?_
 try simp only [Act.put, qI, qX, qY]
 refine wpList_plain rfl fun K hK => ?_
 go_simp
 generalize hW3 : World.alloc W2 _ = W3
 have hb3 : Below W0.heap.size W0 W3 := hW3 ▸ hb2.alloc hb2.size _
 generalize hB3 : W2.heap.size = B3
 clear hW3 hB3
 refine hK _ _ ?_
 clear hK K
 try simp only [Act.put, qI, qX, qY]
 refine wpList_build rfl _ _ rfl (by kernel_rfl) ?_
 try simp only [Act.put, qI, qX, qY]
 refine wpList_plain rfl fun K hK => ?_
 go_simp
 generalize hW4 : World.alloc W3 _ = W4
 have hb4 : Below W0.heap.size W0 W4 := hW4 ▸ hb3.alloc hb3.size _
 generalize hB4 : W3.heap.size = B4
 clear hW4 hB4
 refine hK _ _ ?_
 clear hK K
 try simp only [Act.put, qI, qX, qY]
 refine wpList_build rfl _ _ rfl (by kernel_rfl) ?_
 try simp only [Act.put, qI, qX, qY]
 refine wpList_plain rfl fun K hK => ?_
 go_simp
 generalize hW5 : World.alloc W4 _ = W5
 have hb5 : Below W0.heap.size W0 W5 := hW5 ▸ hb4.alloc hb4.size _
 generalize hB5 : W4.heap.size = B5
 clear hW5 hB5
 refine hK _ _ ?_
 clear hK K
 try simp only [Act.put, qI, qX, qY]
 refine wpList_build rfl _ _ rfl (by kernel_rfl) ?_
 try simp only [Act.put, qI, qX, qY]
 refine wpList_plain rfl fun K hK => ?_
 go_simp
 generalize hW6 : World.alloc W5 _ = W6
 have hb6 : Below W0.heap.size W0 W6 := hW6 ▸ hb5.alloc hb5.size _
 generalize hB6 : W5.heap.size = B6
 clear hW6 hB6
 refine hK _ _ ?_
 clear hK K
 try simp only [Act.put, qI, qX, qY]
 refine wpList_build rfl _ _ rfl (by kernel_rfl) ?_
 try simp only [Act.put, qI, qX, qY]
 refine wpList_plain rfl fun K hK => ?_
 go_simp
 generalize hW7 : World.alloc W6 _ = W7
 have hb7 : Below W0.heap.size W0 W7 := hW7 ▸ hb6.alloc hb6.size _
 generalize hB7 : W6.heap.size = B7
 clear hW7 hB7
 refine hK _ _ ?_
 clear hK K
 try simp only [Act.put, qI, qX, qY]
 refine wpList_build rfl _ _ rfl (by kernel_rfl) ?_
 try simp only [Act.put, qI, qX, qY]
 refine wpList_plain rfl fun K hK => ?_
 go_simp
 generalize hW8 : World.alloc W7 _ = W8
 have hb8 : Below W0.heap.size W0 W8 := hW8 ▸ hb7.alloc hb7.size _
 generalize hB8 : W7.heap.size = B8
 clear hW8 hB8
 refine hK _ _ ?_
 clear hK K
 try simp only [Act.put, qI, qX, qY]
 refine wpList_build rfl _ _ rfl (by kernel_rfl) ?_
 try simp only [Act.put, qI, qX, qY]
 refine wpList_plain rfl fun K hK => ?_
 go_simp
 generalize hW9 : World.alloc W8 _ = W9
 have hb9 : Below W0.heap.size W0 W9 := hW9 ▸ hb8.alloc hb8.size _
 generalize hB9 : W8.heap.size = B9
 clear hW9 hB9
 refine hK _ _ ?_
 clear hK K
 try simp only [Act.put, qI, qX, qY]
 refine wpList_build rfl _ _ rfl (by kernel_rfl) ?_
 try simp only [Act.put, qI, qX, qY]
 refine wpList_plain rfl fun K hK => ?_
 go_simp
 generalize hW10 : World.alloc W9 _ = W10
 have hb10 : Below W0.heap.size W0 W10 := hW10 ▸ hb9.alloc hb9.size _
 generalize hB10 : W9.heap.size = B10
 clear hW10 hB10
 refine hK _ _ ?_
 clear hK K
 try simp only [Act.put, qI, qX, qY]
 refine wpList_build rfl _ _ rfl (by kernel_rfl) ?_
 try simp only [Act.put, qI, qX, qY]
 refine wpList_plain rfl fun K hK => ?_
 go_simp
 generalize hW11 : World.alloc W10 _ = W11
 have hb11 : Below W0.heap.size W0 W11 := hW11 ▸ hb10.alloc hb10.size _
 generalize hB11 : W10.heap.size = B11
 clear hW11 hB11
 refine hK _ _ ?_
 clear hK K
 try simp only [Act.put, qI, qX, qY]
 refine wpList_build rfl _ _ rfl (by kernel_rfl) ?_
 try simp only [Act.put, qI, qX, qY]
 refine wpList_plain rfl fun K hK => ?_
 go_simp
 generalize hW12 : World.alloc W11 _ = W12
 have hb12 : Below W0.heap.size W0 W12 := hW12 ▸ hb11.alloc hb11.size _
 generalize hB12 : W11.heap.size = B12
 clear hW12 hB12
 refine hK _ _ ?_
 clear hK K
 try simp only [Act.put, qI, qX, qY]
 refine wpList_build rfl _ _ rfl (by kernel_rfl) ?_
 try simp only [Act.put, qI, qX, qY]
 refine wpList_plain rfl fun K hK => ?_
 go_simp
 generalize hW13 : World.alloc W12 _ = W13
 have hb13 : Below W0.heap.size W0 W13 := hW13 ▸ hb12.alloc hb12.size _
 generalize hB13 : W12.heap.size = B13
 clear hW13 hB13
 refine hK _ _ ?_
 clear hK K
 try simp only [Act.put, qI, qX, qY]
 refine wpList_build rfl _ _ rfl (by kernel_rfl) ?_
 try simp only [Act.put, qI, qX, qY]
 refine wpList_plain rfl fun K hK => ?_
 go_simp
 generalize hW14 : World.alloc W13 _ = W14
 have hb14 : Below W0.heap.size W0 W14 := hW14 ▸ hb13.alloc hb13.size _
 generalize hB14 : W13.heap.size = B14
 clear hW14 hB14
 refine hK _ _ ?_
 clear hK K
 try simp only [Act.put, qI, qX, qY]
 refine wpList_build rfl _ _ rfl (by kernel_rfl) ?_
 try simp only [Act.put, qI, qX, qY]
 refine wpList_plain rfl fun K hK => ?_
 go_simp
 generalize hW15 : World.alloc W14 _ = W15
 have hb15 : Below W0.heap.size W0 W15 := hW15 ▸ hb14.alloc hb14.size _
 generalize hB15 : W14.heap.size = B15
 clear hW15 hB15
 refine hK _ _ ?_
 clear hK K
 try simp only [Act.put, qI, qX, qY]
 refine wpList_build rfl _ _ rfl (by kernel_rfl) ?_
 try simp only [Act.put, qI, qX, qY]
 refine wpList_plain rfl fun K hK => ?_
 go_simp
 generalize hW16 : World.alloc W15 _ = W16
 have hb16 : Below W0.heap.size W0 W16 := hW16 ▸ hb15.alloc hb15.size _
 generalize hB16 : W15.heap.size = B16
 clear hW16 hB16
 refine hK _ _ ?_
 clear hK K
 try simp only [Act.put, qI, qX, qY]
 refine wpList_build rfl _ _ rfl (by kernel_rfl) ?_
 try simp only [Act.put, qI, qX, qY]
 refine wpList_build rfl _ _ rfl (by kernel_rfl) ?_
 have hz16 := heap_below hb16 hz
 have hbw : Below w.heap.size w W16 := hw0.trans (hb16.mono hw0.size)
 refine wpList_store_row rfl _ _ _ rfl w.heap.size (tagV B1 B2 B3 B4 B5 B6 B7 B8 B9 B10 B11 B12 B13 B14 B15 B16) (by kernel_rfl) (by kernel_rfl) 119 _ hz16 (by kernel_rfl) (by kernel_rfl) (by kernel_rfl) ?_
 generalize hact : Act.put _ _ _ = a9
 have ha9 : a9.tmps.getD 0 undef = .pointer (some ⟨w.heap.size, 0, none⟩) := by rw [← hact]; kernel_rfl
 have hd9 : a9.defers = [] := by rw [← hact]; kernel_rfl
 clear hact
 refine wpList_nil ?_
 have hW := setRow_heap W16 w.heap.size _ (tagV B1 B2 B3 B4 B5 B6 B7 B8 B9 B10 B11 B12 B13 B14 B15 B16) 119 _ hz16
 have hB : Below w.heap.size w (W16.setRow w.heap.size (tagV B1 B2 B3 B4 B5 B6 B7 B8 B9 B10 B11 B12 B13 B14 B15 B16)) := setRow_below2 hbw (Nat.le_refl _)
 simp only [Exit.then]
 refine ‹∀ (a : Act) (w : World), Code.wp _ _ _ a w → _› _ _ ?_
 refine wp_ret ?_
 show bodyPost _ _ _ Exit.ret a9 _
 refine bodyPost_ret (results_tags rfl _ _ w.heap.size _ ha9 hW (by kernel_rfl)) hd9 ?_
 exact ⟨⟨_, _, _, _, _, _, _, _, _, _, _, _, _, _, _, _, rfl⟩, hB⟩
end Go.Proofs.YteognfhemmogpaaGreatDoor
namespace Go.Proofs.YteognfhemmogpaaGreatDoor
open Go.RowKit
open Go.Proofs.Qw
attribute [local go_sem] Oper.semAt_some
set_option maxRecDepth 100000
set_option maxHeartbeats 4000000
theorem results_tagrow {fn : Func} {p : Tmp} (h : fn.results = #[.cell p 101]) (tmps : Array Value) (w : World) (B : Nat) (x y : Value) (hp : tmps.getD p undef = .pointer (some ⟨B, 0, none⟩)) (hg : w.heap[B]? = some (.cells #[x, y] 101)) :
  (results fn tmps).run Tryz.prog w = .ok (.agg #[x, y]) w :=
 results_cell_row h tmps w B _ _ _ _ hp hg Tryz.underlying101 rfl (by kernel_rfl)
def OfSaid (c : Int) (w : World) (e : Ending) (w' : World) : Prop := (∃ s, e = .returned (.agg #[s, .int .i64 c])) ∧ Below w.heap.size w w'
theorem tagsOf_0 (w : World) : Calls Tryz.prog 61 #[.int .i64 0] w (OfSaid 1 w) := by
 obtain ⟨W1, hW1, hB, hz, hB1⟩ : ∃ W1, w.alloc (.cells #[.slice none 0 0, .int .i64 0] 101) = W1 ∧ Below w.heap.size w W1 ∧ w.heap.size + 1 = W1.heap.size ∧ W1.heap[w.heap.size]? = some (.cells #[.slice none 0 0, .int .i64 0] 101) :=
  ⟨_, rfl, (Below.refl _ _).alloc (Nat.le_refl _) _, by simp, heap_new _ _ rfl⟩
 have H1 := Lib.hid hB1
 have HB := Lib.hid hB
 clear hB hB1
 go_enter Tryz.func61, Tryz.ntmps61
 go_wp2_with (go_at_call 76; refine (tagTab_ok _).mono ?_; rintro e w2 ⟨⟨B1, B2, B3, B4, B5, B6, B7, B8, B9, B10, B11, B12, B13, B14, B15, B16, rfl⟩, hb2⟩; have hB2 := heap_below hb2 H1.out; obtain ⟨q1, g1⟩ := blk hB2; have hix : ∀ X, Sem.run Tryz.prog (Instr.index 119 (.agg (tagV B1 B2 B3 B4 B5 B6 B7 B8 B9 B10 B11 B12 B13 B14 B15 B16)) (.int .i64 0)) X = .ok (.agg #[.slice none 0 0, .int .i64 1]) X := fun X => by kernel_rfl)
 refine bodyPost_ret (results_tagrow rfl _ _ w.heap.size (.slice none 0 0) (.int .i64 1) rfl (by simp [heap_set, putIn, hB2])) rfl ?_
 refine ⟨⟨_, rfl⟩, ?_⟩
 exact (((HB.out.trans (hb2.mono (by omega))).setCell (Nat.le_refl _) _).setCell (Nat.le_refl _) _)
theorem tagsOf_1 (w : World) : Calls Tryz.prog 61 #[.int .i64 1] w (OfSaid 2 w) := by
 obtain ⟨W1, hW1, hB, hz, hB1⟩ : ∃ W1, w.alloc (.cells #[.slice none 0 0, .int .i64 0] 101) = W1 ∧ Below w.heap.size w W1 ∧ w.heap.size + 1 = W1.heap.size ∧ W1.heap[w.heap.size]? = some (.cells #[.slice none 0 0, .int .i64 0] 101) :=
  ⟨_, rfl, (Below.refl _ _).alloc (Nat.le_refl _) _, by simp, heap_new _ _ rfl⟩
 have H1 := Lib.hid hB1
 have HB := Lib.hid hB
 clear hB hB1
 go_enter Tryz.func61, Tryz.ntmps61
 go_wp2_with (go_at_call 76; refine (tagTab_ok _).mono ?_; rintro e w2 ⟨⟨B1, B2, B3, B4, B5, B6, B7, B8, B9, B10, B11, B12, B13, B14, B15, B16, rfl⟩, hb2⟩; have hB2 := heap_below hb2 H1.out; obtain ⟨q1, g1⟩ := blk hB2; have hix : ∀ X, Sem.run Tryz.prog (Instr.index 119 (.agg (tagV B1 B2 B3 B4 B5 B6 B7 B8 B9 B10 B11 B12 B13 B14 B15 B16)) (.int .i64 1)) X = .ok (.agg #[.slice (some ⟨B1, 0, none⟩) 1 1, .int .i64 2]) X := fun X => by kernel_rfl)
 refine bodyPost_ret (results_tagrow rfl _ _ w.heap.size (.slice (some ⟨B1, 0, none⟩) 1 1) (.int .i64 2) rfl (by simp [heap_set, putIn, hB2])) rfl ?_
 refine ⟨⟨_, rfl⟩, ?_⟩
 exact (((HB.out.trans (hb2.mono (by omega))).setCell (Nat.le_refl _) _).setCell (Nat.le_refl _) _)
theorem tagsOf_2 (w : World) : Calls Tryz.prog 61 #[.int .i64 2] w (OfSaid 3 w) := by
 obtain ⟨W1, hW1, hB, hz, hB1⟩ : ∃ W1, w.alloc (.cells #[.slice none 0 0, .int .i64 0] 101) = W1 ∧ Below w.heap.size w W1 ∧ w.heap.size + 1 = W1.heap.size ∧ W1.heap[w.heap.size]? = some (.cells #[.slice none 0 0, .int .i64 0] 101) :=
  ⟨_, rfl, (Below.refl _ _).alloc (Nat.le_refl _) _, by simp, heap_new _ _ rfl⟩
 have H1 := Lib.hid hB1
 have HB := Lib.hid hB
 clear hB hB1
 go_enter Tryz.func61, Tryz.ntmps61
 go_wp2_with (go_at_call 76; refine (tagTab_ok _).mono ?_; rintro e w2 ⟨⟨B1, B2, B3, B4, B5, B6, B7, B8, B9, B10, B11, B12, B13, B14, B15, B16, rfl⟩, hb2⟩; have hB2 := heap_below hb2 H1.out; obtain ⟨q1, g1⟩ := blk hB2; have hix : ∀ X, Sem.run Tryz.prog (Instr.index 119 (.agg (tagV B1 B2 B3 B4 B5 B6 B7 B8 B9 B10 B11 B12 B13 B14 B15 B16)) (.int .i64 2)) X = .ok (.agg #[.slice (some ⟨B2, 0, none⟩) 1 1, .int .i64 3]) X := fun X => by kernel_rfl)
 refine bodyPost_ret (results_tagrow rfl _ _ w.heap.size (.slice (some ⟨B2, 0, none⟩) 1 1) (.int .i64 3) rfl (by simp [heap_set, putIn, hB2])) rfl ?_
 refine ⟨⟨_, rfl⟩, ?_⟩
 exact (((HB.out.trans (hb2.mono (by omega))).setCell (Nat.le_refl _) _).setCell (Nat.le_refl _) _)
theorem tagsOf_3 (w : World) : Calls Tryz.prog 61 #[.int .i64 3] w (OfSaid 3 w) := by
 obtain ⟨W1, hW1, hB, hz, hB1⟩ : ∃ W1, w.alloc (.cells #[.slice none 0 0, .int .i64 0] 101) = W1 ∧ Below w.heap.size w W1 ∧ w.heap.size + 1 = W1.heap.size ∧ W1.heap[w.heap.size]? = some (.cells #[.slice none 0 0, .int .i64 0] 101) :=
  ⟨_, rfl, (Below.refl _ _).alloc (Nat.le_refl _) _, by simp, heap_new _ _ rfl⟩
 have H1 := Lib.hid hB1
 have HB := Lib.hid hB
 clear hB hB1
 go_enter Tryz.func61, Tryz.ntmps61
 go_wp2_with (go_at_call 76; refine (tagTab_ok _).mono ?_; rintro e w2 ⟨⟨B1, B2, B3, B4, B5, B6, B7, B8, B9, B10, B11, B12, B13, B14, B15, B16, rfl⟩, hb2⟩; have hB2 := heap_below hb2 H1.out; obtain ⟨q1, g1⟩ := blk hB2; have hix : ∀ X, Sem.run Tryz.prog (Instr.index 119 (.agg (tagV B1 B2 B3 B4 B5 B6 B7 B8 B9 B10 B11 B12 B13 B14 B15 B16)) (.int .i64 3)) X = .ok (.agg #[.slice (some ⟨B3, 0, none⟩) 1 1, .int .i64 3]) X := fun X => by kernel_rfl)
 refine bodyPost_ret (results_tagrow rfl _ _ w.heap.size (.slice (some ⟨B3, 0, none⟩) 1 1) (.int .i64 3) rfl (by simp [heap_set, putIn, hB2])) rfl ?_
 refine ⟨⟨_, rfl⟩, ?_⟩
 exact (((HB.out.trans (hb2.mono (by omega))).setCell (Nat.le_refl _) _).setCell (Nat.le_refl _) _)
theorem tagsOf_4 (w : World) : Calls Tryz.prog 61 #[.int .i64 4] w (OfSaid 3 w) := by
 obtain ⟨W1, hW1, hB, hz, hB1⟩ : ∃ W1, w.alloc (.cells #[.slice none 0 0, .int .i64 0] 101) = W1 ∧ Below w.heap.size w W1 ∧ w.heap.size + 1 = W1.heap.size ∧ W1.heap[w.heap.size]? = some (.cells #[.slice none 0 0, .int .i64 0] 101) :=
  ⟨_, rfl, (Below.refl _ _).alloc (Nat.le_refl _) _, by simp, heap_new _ _ rfl⟩
 have H1 := Lib.hid hB1
 have HB := Lib.hid hB
 clear hB hB1
 go_enter Tryz.func61, Tryz.ntmps61
 go_wp2_with (go_at_call 76; refine (tagTab_ok _).mono ?_; rintro e w2 ⟨⟨B1, B2, B3, B4, B5, B6, B7, B8, B9, B10, B11, B12, B13, B14, B15, B16, rfl⟩, hb2⟩; have hB2 := heap_below hb2 H1.out; obtain ⟨q1, g1⟩ := blk hB2; have hix : ∀ X, Sem.run Tryz.prog (Instr.index 119 (.agg (tagV B1 B2 B3 B4 B5 B6 B7 B8 B9 B10 B11 B12 B13 B14 B15 B16)) (.int .i64 4)) X = .ok (.agg #[.slice (some ⟨B4, 0, none⟩) 1 1, .int .i64 3]) X := fun X => by kernel_rfl)
 refine bodyPost_ret (results_tagrow rfl _ _ w.heap.size (.slice (some ⟨B4, 0, none⟩) 1 1) (.int .i64 3) rfl (by simp [heap_set, putIn, hB2])) rfl ?_
 refine ⟨⟨_, rfl⟩, ?_⟩
 exact (((HB.out.trans (hb2.mono (by omega))).setCell (Nat.le_refl _) _).setCell (Nat.le_refl _) _)
theorem tagsOf_5 (w : World) : Calls Tryz.prog 61 #[.int .i64 5] w (OfSaid 3 w) := by
 obtain ⟨W1, hW1, hB, hz, hB1⟩ : ∃ W1, w.alloc (.cells #[.slice none 0 0, .int .i64 0] 101) = W1 ∧ Below w.heap.size w W1 ∧ w.heap.size + 1 = W1.heap.size ∧ W1.heap[w.heap.size]? = some (.cells #[.slice none 0 0, .int .i64 0] 101) :=
  ⟨_, rfl, (Below.refl _ _).alloc (Nat.le_refl _) _, by simp, heap_new _ _ rfl⟩
 have H1 := Lib.hid hB1
 have HB := Lib.hid hB
 clear hB hB1
 go_enter Tryz.func61, Tryz.ntmps61
 go_wp2_with (go_at_call 76; refine (tagTab_ok _).mono ?_; rintro e w2 ⟨⟨B1, B2, B3, B4, B5, B6, B7, B8, B9, B10, B11, B12, B13, B14, B15, B16, rfl⟩, hb2⟩; have hB2 := heap_below hb2 H1.out; obtain ⟨q1, g1⟩ := blk hB2; have hix : ∀ X, Sem.run Tryz.prog (Instr.index 119 (.agg (tagV B1 B2 B3 B4 B5 B6 B7 B8 B9 B10 B11 B12 B13 B14 B15 B16)) (.int .i64 5)) X = .ok (.agg #[.slice (some ⟨B5, 0, none⟩) 1 1, .int .i64 3]) X := fun X => by kernel_rfl)
 refine bodyPost_ret (results_tagrow rfl _ _ w.heap.size (.slice (some ⟨B5, 0, none⟩) 1 1) (.int .i64 3) rfl (by simp [heap_set, putIn, hB2])) rfl ?_
 refine ⟨⟨_, rfl⟩, ?_⟩
 exact (((HB.out.trans (hb2.mono (by omega))).setCell (Nat.le_refl _) _).setCell (Nat.le_refl _) _)
theorem tagsOf_6 (w : World) : Calls Tryz.prog 61 #[.int .i64 6] w (OfSaid 2 w) := by
 obtain ⟨W1, hW1, hB, hz, hB1⟩ : ∃ W1, w.alloc (.cells #[.slice none 0 0, .int .i64 0] 101) = W1 ∧ Below w.heap.size w W1 ∧ w.heap.size + 1 = W1.heap.size ∧ W1.heap[w.heap.size]? = some (.cells #[.slice none 0 0, .int .i64 0] 101) :=
  ⟨_, rfl, (Below.refl _ _).alloc (Nat.le_refl _) _, by simp, heap_new _ _ rfl⟩
 have H1 := Lib.hid hB1
 have HB := Lib.hid hB
 clear hB hB1
 go_enter Tryz.func61, Tryz.ntmps61
 go_wp2_with (go_at_call 76; refine (tagTab_ok _).mono ?_; rintro e w2 ⟨⟨B1, B2, B3, B4, B5, B6, B7, B8, B9, B10, B11, B12, B13, B14, B15, B16, rfl⟩, hb2⟩; have hB2 := heap_below hb2 H1.out; obtain ⟨q1, g1⟩ := blk hB2; have hix : ∀ X, Sem.run Tryz.prog (Instr.index 119 (.agg (tagV B1 B2 B3 B4 B5 B6 B7 B8 B9 B10 B11 B12 B13 B14 B15 B16)) (.int .i64 6)) X = .ok (.agg #[.slice (some ⟨B6, 0, none⟩) 1 1, .int .i64 2]) X := fun X => by kernel_rfl)
 refine bodyPost_ret (results_tagrow rfl _ _ w.heap.size (.slice (some ⟨B6, 0, none⟩) 1 1) (.int .i64 2) rfl (by simp [heap_set, putIn, hB2])) rfl ?_
 refine ⟨⟨_, rfl⟩, ?_⟩
 exact (((HB.out.trans (hb2.mono (by omega))).setCell (Nat.le_refl _) _).setCell (Nat.le_refl _) _)
theorem tagsOf_7 (w : World) : Calls Tryz.prog 61 #[.int .i64 7] w (OfSaid 2 w) := by
 obtain ⟨W1, hW1, hB, hz, hB1⟩ : ∃ W1, w.alloc (.cells #[.slice none 0 0, .int .i64 0] 101) = W1 ∧ Below w.heap.size w W1 ∧ w.heap.size + 1 = W1.heap.size ∧ W1.heap[w.heap.size]? = some (.cells #[.slice none 0 0, .int .i64 0] 101) :=
  ⟨_, rfl, (Below.refl _ _).alloc (Nat.le_refl _) _, by simp, heap_new _ _ rfl⟩
 have H1 := Lib.hid hB1
 have HB := Lib.hid hB
 clear hB hB1
 go_enter Tryz.func61, Tryz.ntmps61
 go_wp2_with (go_at_call 76; refine (tagTab_ok _).mono ?_; rintro e w2 ⟨⟨B1, B2, B3, B4, B5, B6, B7, B8, B9, B10, B11, B12, B13, B14, B15, B16, rfl⟩, hb2⟩; have hB2 := heap_below hb2 H1.out; obtain ⟨q1, g1⟩ := blk hB2; have hix : ∀ X, Sem.run Tryz.prog (Instr.index 119 (.agg (tagV B1 B2 B3 B4 B5 B6 B7 B8 B9 B10 B11 B12 B13 B14 B15 B16)) (.int .i64 7)) X = .ok (.agg #[.slice (some ⟨B7, 0, none⟩) 1 1, .int .i64 2]) X := fun X => by kernel_rfl)
 refine bodyPost_ret (results_tagrow rfl _ _ w.heap.size (.slice (some ⟨B7, 0, none⟩) 1 1) (.int .i64 2) rfl (by simp [heap_set, putIn, hB2])) rfl ?_
 refine ⟨⟨_, rfl⟩, ?_⟩
 exact (((HB.out.trans (hb2.mono (by omega))).setCell (Nat.le_refl _) _).setCell (Nat.le_refl _) _)
theorem tagsOf_8 (w : World) : Calls Tryz.prog 61 #[.int .i64 8] w (OfSaid 2 w) := by
 obtain ⟨W1, hW1, hB, hz, hB1⟩ : ∃ W1, w.alloc (.cells #[.slice none 0 0, .int .i64 0] 101) = W1 ∧ Below w.heap.size w W1 ∧ w.heap.size + 1 = W1.heap.size ∧ W1.heap[w.heap.size]? = some (.cells #[.slice none 0 0, .int .i64 0] 101) :=
  ⟨_, rfl, (Below.refl _ _).alloc (Nat.le_refl _) _, by simp, heap_new _ _ rfl⟩
 have H1 := Lib.hid hB1
 have HB := Lib.hid hB
 clear hB hB1
 go_enter Tryz.func61, Tryz.ntmps61
 go_wp2_with (go_at_call 76; refine (tagTab_ok _).mono ?_; rintro e w2 ⟨⟨B1, B2, B3, B4, B5, B6, B7, B8, B9, B10, B11, B12, B13, B14, B15, B16, rfl⟩, hb2⟩; have hB2 := heap_below hb2 H1.out; obtain ⟨q1, g1⟩ := blk hB2; have hix : ∀ X, Sem.run Tryz.prog (Instr.index 119 (.agg (tagV B1 B2 B3 B4 B5 B6 B7 B8 B9 B10 B11 B12 B13 B14 B15 B16)) (.int .i64 8)) X = .ok (.agg #[.slice (some ⟨B8, 0, none⟩) 1 1, .int .i64 2]) X := fun X => by kernel_rfl)
 refine bodyPost_ret (results_tagrow rfl _ _ w.heap.size (.slice (some ⟨B8, 0, none⟩) 1 1) (.int .i64 2) rfl (by simp [heap_set, putIn, hB2])) rfl ?_
 refine ⟨⟨_, rfl⟩, ?_⟩
 exact (((HB.out.trans (hb2.mono (by omega))).setCell (Nat.le_refl _) _).setCell (Nat.le_refl _) _)
theorem tagsOf_9 (w : World) : Calls Tryz.prog 61 #[.int .i64 9] w (OfSaid 3 w) := by
 obtain ⟨W1, hW1, hB, hz, hB1⟩ : ∃ W1, w.alloc (.cells #[.slice none 0 0, .int .i64 0] 101) = W1 ∧ Below w.heap.size w W1 ∧ w.heap.size + 1 = W1.heap.size ∧ W1.heap[w.heap.size]? = some (.cells #[.slice none 0 0, .int .i64 0] 101) :=
  ⟨_, rfl, (Below.refl _ _).alloc (Nat.le_refl _) _, by simp, heap_new _ _ rfl⟩
 have H1 := Lib.hid hB1
 have HB := Lib.hid hB
 clear hB hB1
 go_enter Tryz.func61, Tryz.ntmps61
 go_wp2_with (go_at_call 76; refine (tagTab_ok _).mono ?_; rintro e w2 ⟨⟨B1, B2, B3, B4, B5, B6, B7, B8, B9, B10, B11, B12, B13, B14, B15, B16, rfl⟩, hb2⟩; have hB2 := heap_below hb2 H1.out; obtain ⟨q1, g1⟩ := blk hB2; have hix : ∀ X, Sem.run Tryz.prog (Instr.index 119 (.agg (tagV B1 B2 B3 B4 B5 B6 B7 B8 B9 B10 B11 B12 B13 B14 B15 B16)) (.int .i64 9)) X = .ok (.agg #[.slice (some ⟨B9, 0, none⟩) 1 1, .int .i64 3]) X := fun X => by kernel_rfl)
 refine bodyPost_ret (results_tagrow rfl _ _ w.heap.size (.slice (some ⟨B9, 0, none⟩) 1 1) (.int .i64 3) rfl (by simp [heap_set, putIn, hB2])) rfl ?_
 refine ⟨⟨_, rfl⟩, ?_⟩
 exact (((HB.out.trans (hb2.mono (by omega))).setCell (Nat.le_refl _) _).setCell (Nat.le_refl _) _)
theorem tagsOf_10 (w : World) : Calls Tryz.prog 61 #[.int .i64 10] w (OfSaid 4 w) := by
 obtain ⟨W1, hW1, hB, hz, hB1⟩ : ∃ W1, w.alloc (.cells #[.slice none 0 0, .int .i64 0] 101) = W1 ∧ Below w.heap.size w W1 ∧ w.heap.size + 1 = W1.heap.size ∧ W1.heap[w.heap.size]? = some (.cells #[.slice none 0 0, .int .i64 0] 101) :=
  ⟨_, rfl, (Below.refl _ _).alloc (Nat.le_refl _) _, by simp, heap_new _ _ rfl⟩
 have H1 := Lib.hid hB1
 have HB := Lib.hid hB
 clear hB hB1
 go_enter Tryz.func61, Tryz.ntmps61
 go_wp2_with (go_at_call 76; refine (tagTab_ok _).mono ?_; rintro e w2 ⟨⟨B1, B2, B3, B4, B5, B6, B7, B8, B9, B10, B11, B12, B13, B14, B15, B16, rfl⟩, hb2⟩; have hB2 := heap_below hb2 H1.out; obtain ⟨q1, g1⟩ := blk hB2; have hix : ∀ X, Sem.run Tryz.prog (Instr.index 119 (.agg (tagV B1 B2 B3 B4 B5 B6 B7 B8 B9 B10 B11 B12 B13 B14 B15 B16)) (.int .i64 10)) X = .ok (.agg #[.slice (some ⟨B10, 0, none⟩) 1 1, .int .i64 4]) X := fun X => by kernel_rfl)
 refine bodyPost_ret (results_tagrow rfl _ _ w.heap.size (.slice (some ⟨B10, 0, none⟩) 1 1) (.int .i64 4) rfl (by simp [heap_set, putIn, hB2])) rfl ?_
 refine ⟨⟨_, rfl⟩, ?_⟩
 exact (((HB.out.trans (hb2.mono (by omega))).setCell (Nat.le_refl _) _).setCell (Nat.le_refl _) _)
theorem tagsOf_11 (w : World) : Calls Tryz.prog 61 #[.int .i64 11] w (OfSaid 4 w) := by
 obtain ⟨W1, hW1, hB, hz, hB1⟩ : ∃ W1, w.alloc (.cells #[.slice none 0 0, .int .i64 0] 101) = W1 ∧ Below w.heap.size w W1 ∧ w.heap.size + 1 = W1.heap.size ∧ W1.heap[w.heap.size]? = some (.cells #[.slice none 0 0, .int .i64 0] 101) :=
  ⟨_, rfl, (Below.refl _ _).alloc (Nat.le_refl _) _, by simp, heap_new _ _ rfl⟩
 have H1 := Lib.hid hB1
 have HB := Lib.hid hB
 clear hB hB1
 go_enter Tryz.func61, Tryz.ntmps61
 go_wp2_with (go_at_call 76; refine (tagTab_ok _).mono ?_; rintro e w2 ⟨⟨B1, B2, B3, B4, B5, B6, B7, B8, B9, B10, B11, B12, B13, B14, B15, B16, rfl⟩, hb2⟩; have hB2 := heap_below hb2 H1.out; obtain ⟨q1, g1⟩ := blk hB2; have hix : ∀ X, Sem.run Tryz.prog (Instr.index 119 (.agg (tagV B1 B2 B3 B4 B5 B6 B7 B8 B9 B10 B11 B12 B13 B14 B15 B16)) (.int .i64 11)) X = .ok (.agg #[.slice (some ⟨B11, 0, none⟩) 2 2, .int .i64 4]) X := fun X => by kernel_rfl)
 refine bodyPost_ret (results_tagrow rfl _ _ w.heap.size (.slice (some ⟨B11, 0, none⟩) 2 2) (.int .i64 4) rfl (by simp [heap_set, putIn, hB2])) rfl ?_
 refine ⟨⟨_, rfl⟩, ?_⟩
 exact (((HB.out.trans (hb2.mono (by omega))).setCell (Nat.le_refl _) _).setCell (Nat.le_refl _) _)
theorem tagsOf_12 (w : World) : Calls Tryz.prog 61 #[.int .i64 12] w (OfSaid 4 w) := by
 obtain ⟨W1, hW1, hB, hz, hB1⟩ : ∃ W1, w.alloc (.cells #[.slice none 0 0, .int .i64 0] 101) = W1 ∧ Below w.heap.size w W1 ∧ w.heap.size + 1 = W1.heap.size ∧ W1.heap[w.heap.size]? = some (.cells #[.slice none 0 0, .int .i64 0] 101) :=
  ⟨_, rfl, (Below.refl _ _).alloc (Nat.le_refl _) _, by simp, heap_new _ _ rfl⟩
 have H1 := Lib.hid hB1
 have HB := Lib.hid hB
 clear hB hB1
 go_enter Tryz.func61, Tryz.ntmps61
 go_wp2_with (go_at_call 76; refine (tagTab_ok _).mono ?_; rintro e w2 ⟨⟨B1, B2, B3, B4, B5, B6, B7, B8, B9, B10, B11, B12, B13, B14, B15, B16, rfl⟩, hb2⟩; have hB2 := heap_below hb2 H1.out; obtain ⟨q1, g1⟩ := blk hB2; have hix : ∀ X, Sem.run Tryz.prog (Instr.index 119 (.agg (tagV B1 B2 B3 B4 B5 B6 B7 B8 B9 B10 B11 B12 B13 B14 B15 B16)) (.int .i64 12)) X = .ok (.agg #[.slice (some ⟨B12, 0, none⟩) 2 2, .int .i64 4]) X := fun X => by kernel_rfl)
 refine bodyPost_ret (results_tagrow rfl _ _ w.heap.size (.slice (some ⟨B12, 0, none⟩) 2 2) (.int .i64 4) rfl (by simp [heap_set, putIn, hB2])) rfl ?_
 refine ⟨⟨_, rfl⟩, ?_⟩
 exact (((HB.out.trans (hb2.mono (by omega))).setCell (Nat.le_refl _) _).setCell (Nat.le_refl _) _)
theorem tagsOf_13 (w : World) : Calls Tryz.prog 61 #[.int .i64 13] w (OfSaid 4 w) := by
 obtain ⟨W1, hW1, hB, hz, hB1⟩ : ∃ W1, w.alloc (.cells #[.slice none 0 0, .int .i64 0] 101) = W1 ∧ Below w.heap.size w W1 ∧ w.heap.size + 1 = W1.heap.size ∧ W1.heap[w.heap.size]? = some (.cells #[.slice none 0 0, .int .i64 0] 101) :=
  ⟨_, rfl, (Below.refl _ _).alloc (Nat.le_refl _) _, by simp, heap_new _ _ rfl⟩
 have H1 := Lib.hid hB1
 have HB := Lib.hid hB
 clear hB hB1
 go_enter Tryz.func61, Tryz.ntmps61
 go_wp2_with (go_at_call 76; refine (tagTab_ok _).mono ?_; rintro e w2 ⟨⟨B1, B2, B3, B4, B5, B6, B7, B8, B9, B10, B11, B12, B13, B14, B15, B16, rfl⟩, hb2⟩; have hB2 := heap_below hb2 H1.out; obtain ⟨q1, g1⟩ := blk hB2; have hix : ∀ X, Sem.run Tryz.prog (Instr.index 119 (.agg (tagV B1 B2 B3 B4 B5 B6 B7 B8 B9 B10 B11 B12 B13 B14 B15 B16)) (.int .i64 13)) X = .ok (.agg #[.slice (some ⟨B13, 0, none⟩) 2 2, .int .i64 4]) X := fun X => by kernel_rfl)
 refine bodyPost_ret (results_tagrow rfl _ _ w.heap.size (.slice (some ⟨B13, 0, none⟩) 2 2) (.int .i64 4) rfl (by simp [heap_set, putIn, hB2])) rfl ?_
 refine ⟨⟨_, rfl⟩, ?_⟩
 exact (((HB.out.trans (hb2.mono (by omega))).setCell (Nat.le_refl _) _).setCell (Nat.le_refl _) _)
theorem tagsOf_14 (w : World) : Calls Tryz.prog 61 #[.int .i64 14] w (OfSaid 4 w) := by
 obtain ⟨W1, hW1, hB, hz, hB1⟩ : ∃ W1, w.alloc (.cells #[.slice none 0 0, .int .i64 0] 101) = W1 ∧ Below w.heap.size w W1 ∧ w.heap.size + 1 = W1.heap.size ∧ W1.heap[w.heap.size]? = some (.cells #[.slice none 0 0, .int .i64 0] 101) :=
  ⟨_, rfl, (Below.refl _ _).alloc (Nat.le_refl _) _, by simp, heap_new _ _ rfl⟩
 have H1 := Lib.hid hB1
 have HB := Lib.hid hB
 clear hB hB1
 go_enter Tryz.func61, Tryz.ntmps61
 go_wp2_with (go_at_call 76; refine (tagTab_ok _).mono ?_; rintro e w2 ⟨⟨B1, B2, B3, B4, B5, B6, B7, B8, B9, B10, B11, B12, B13, B14, B15, B16, rfl⟩, hb2⟩; have hB2 := heap_below hb2 H1.out; obtain ⟨q1, g1⟩ := blk hB2; have hix : ∀ X, Sem.run Tryz.prog (Instr.index 119 (.agg (tagV B1 B2 B3 B4 B5 B6 B7 B8 B9 B10 B11 B12 B13 B14 B15 B16)) (.int .i64 14)) X = .ok (.agg #[.slice (some ⟨B14, 0, none⟩) 3 3, .int .i64 4]) X := fun X => by kernel_rfl)
 refine bodyPost_ret (results_tagrow rfl _ _ w.heap.size (.slice (some ⟨B14, 0, none⟩) 3 3) (.int .i64 4) rfl (by simp [heap_set, putIn, hB2])) rfl ?_
 refine ⟨⟨_, rfl⟩, ?_⟩
 exact (((HB.out.trans (hb2.mono (by omega))).setCell (Nat.le_refl _) _).setCell (Nat.le_refl _) _)
theorem tagsOf_15 (w : World) : Calls Tryz.prog 61 #[.int .i64 15] w (OfSaid 4 w) := by
 obtain ⟨W1, hW1, hB, hz, hB1⟩ : ∃ W1, w.alloc (.cells #[.slice none 0 0, .int .i64 0] 101) = W1 ∧ Below w.heap.size w W1 ∧ w.heap.size + 1 = W1.heap.size ∧ W1.heap[w.heap.size]? = some (.cells #[.slice none 0 0, .int .i64 0] 101) :=
  ⟨_, rfl, (Below.refl _ _).alloc (Nat.le_refl _) _, by simp, heap_new _ _ rfl⟩
 have H1 := Lib.hid hB1
 have HB := Lib.hid hB
 clear hB hB1
 go_enter Tryz.func61, Tryz.ntmps61
 go_wp2_with (go_at_call 76; refine (tagTab_ok _).mono ?_; rintro e w2 ⟨⟨B1, B2, B3, B4, B5, B6, B7, B8, B9, B10, B11, B12, B13, B14, B15, B16, rfl⟩, hb2⟩; have hB2 := heap_below hb2 H1.out; obtain ⟨q1, g1⟩ := blk hB2; have hix : ∀ X, Sem.run Tryz.prog (Instr.index 119 (.agg (tagV B1 B2 B3 B4 B5 B6 B7 B8 B9 B10 B11 B12 B13 B14 B15 B16)) (.int .i64 15)) X = .ok (.agg #[.slice (some ⟨B15, 0, none⟩) 1 1, .int .i64 4]) X := fun X => by kernel_rfl)
 refine bodyPost_ret (results_tagrow rfl _ _ w.heap.size (.slice (some ⟨B15, 0, none⟩) 1 1) (.int .i64 4) rfl (by simp [heap_set, putIn, hB2])) rfl ?_
 refine ⟨⟨_, rfl⟩, ?_⟩
 exact (((HB.out.trans (hb2.mono (by omega))).setCell (Nat.le_refl _) _).setCell (Nat.le_refl _) _)
theorem tagsOf_16 (w : World) : Calls Tryz.prog 61 #[.int .i64 16] w (OfSaid 5 w) := by
 obtain ⟨W1, hW1, hB, hz, hB1⟩ : ∃ W1, w.alloc (.cells #[.slice none 0 0, .int .i64 0] 101) = W1 ∧ Below w.heap.size w W1 ∧ w.heap.size + 1 = W1.heap.size ∧ W1.heap[w.heap.size]? = some (.cells #[.slice none 0 0, .int .i64 0] 101) :=
  ⟨_, rfl, (Below.refl _ _).alloc (Nat.le_refl _) _, by simp, heap_new _ _ rfl⟩
 have H1 := Lib.hid hB1
 have HB := Lib.hid hB
 clear hB hB1
 go_enter Tryz.func61, Tryz.ntmps61
 go_wp2_with (go_at_call 76; refine (tagTab_ok _).mono ?_; rintro e w2 ⟨⟨B1, B2, B3, B4, B5, B6, B7, B8, B9, B10, B11, B12, B13, B14, B15, B16, rfl⟩, hb2⟩; have hB2 := heap_below hb2 H1.out; obtain ⟨q1, g1⟩ := blk hB2; have hix : ∀ X, Sem.run Tryz.prog (Instr.index 119 (.agg (tagV B1 B2 B3 B4 B5 B6 B7 B8 B9 B10 B11 B12 B13 B14 B15 B16)) (.int .i64 16)) X = .ok (.agg #[.slice (some ⟨B16, 0, none⟩) 1 1, .int .i64 5]) X := fun X => by kernel_rfl)
 refine bodyPost_ret (results_tagrow rfl _ _ w.heap.size (.slice (some ⟨B16, 0, none⟩) 1 1) (.int .i64 5) rfl (by simp [heap_set, putIn, hB2])) rfl ?_
 refine ⟨⟨_, rfl⟩, ?_⟩
 exact (((HB.out.trans (hb2.mono (by omega))).setCell (Nat.le_refl _) _).setCell (Nat.le_refl _) _)
theorem tagsOf_out (t : Int) (ht : t < 0 ∨ 16 < t) (w : World) : Calls Tryz.prog 61 #[.int .i64 t] w (OfSaid 0 w) := by
 obtain ⟨W1, hW1, hB, hz, hB1⟩ : ∃ W1, w.alloc (.cells #[.slice none 0 0, .int .i64 0] 101) = W1 ∧ Below w.heap.size w W1 ∧ w.heap.size + 1 = W1.heap.size ∧ W1.heap[w.heap.size]? = some (.cells #[.slice none 0 0, .int .i64 0] 101) :=
  ⟨_, rfl, (Below.refl _ _).alloc (Nat.le_refl _) _, by simp, heap_new _ _ rfl⟩
 have H1 := Lib.hid hB1
 have HB := Lib.hid hB
 obtain ⟨p1, f1⟩ := blk hB1
 clear hB
 rcases ht with ht | ht
 ·have hd1 : decide (t < 0) = true := decide_eq_true ht
  go_enter Tryz.func61, Tryz.ntmps61
  go_wp2_with fail
  refine bodyPost_ret (results_tagrow rfl _ _ w.heap.size (.slice none 0 0) (.int .i64 0) rfl (by simp [heap_set, putIn, hB1])) rfl ?_
  refine ⟨⟨_, rfl⟩, ?_⟩
  exact ((HB.out.setCell (Nat.le_refl _) _).setCell (Nat.le_refl _) _)
 ·have hd1 : decide (t < 0) = false := decide_eq_false (by omega)
  have hd2 : decide (16 < t) = true := decide_eq_true ht
  go_enter Tryz.func61, Tryz.ntmps61
  go_wp2_with fail
  refine bodyPost_ret (results_tagrow rfl _ _ w.heap.size (.slice none 0 0) (.int .i64 0) rfl (by simp [heap_set, putIn, hB1])) rfl ?_
  refine ⟨⟨_, rfl⟩, ?_⟩
  exact ((HB.out.setCell (Nat.le_refl _) _).setCell (Nat.le_refl _) _)
theorem tagsOf_any (t : Int) (w : World) : Calls Tryz.prog 61 #[.int .i64 t] w (OfSaid (tagC t) w) := by
 by_cases ht : t < 0 ∨ 16 < t
 ·rw [show tagC t = 0 by unfold tagC; rw [if_pos ht]]
  exact tagsOf_out t ht w
 ·have h : t = 0 ∨ t = 1 ∨ t = 2 ∨ t = 3 ∨ t = 4 ∨ t = 5 ∨ t = 6 ∨ t = 7 ∨ t = 8 ∨ t = 9 ∨ t = 10 ∨ t = 11 ∨ t = 12 ∨ t = 13 ∨ t = 14 ∨ t = 15 ∨ t = 16 := by omega
  rcases h with rfl | rfl | rfl | rfl | rfl | rfl | rfl | rfl | rfl | rfl | rfl | rfl | rfl | rfl | rfl | rfl | rfl
  ·exact tagsOf_0 w
  ·exact tagsOf_1 w
  ·exact tagsOf_2 w
  ·exact tagsOf_3 w
  ·exact tagsOf_4 w
  ·exact tagsOf_5 w
  ·exact tagsOf_6 w
  ·exact tagsOf_7 w
  ·exact tagsOf_8 w
  ·exact tagsOf_9 w
  ·exact tagsOf_10 w
  ·exact tagsOf_11 w
  ·exact tagsOf_12 w
  ·exact tagsOf_13 w
  ·exact tagsOf_14 w
  ·exact tagsOf_15 w
  ·exact tagsOf_16 w
theorem tagsClass_any (t : Int) (w : World) : Calls Tryz.prog 37 #[.int .i64 t] w fun e w' => e = .returned (.int .i64 (tagC t)) ∧ Below w.heap.size w w' := by
 have HC := Lib.hid (tagsOf_any t w)
 generalize tagC t = c at *
 go_enter Tryz.func37, Tryz.ntmps37
 go_wp2_with (go_at_call 61; refine HC.out.mono ?_; rintro e w1 ⟨⟨s, rfl⟩, hb1⟩; have hfld : ∀ X, Sem.run Tryz.prog (Instr.field 101 (.agg #[s, .int .i64 c]) 1) X = .ok (.int .i64 c) X := fun X => by kernel_rfl)
 go_ret
 exact ⟨by first | rfl | simp, hb1⟩
end Go.Proofs.YteognfhemmogpaaGreatDoor
namespace Go.Proofs.Qw
open Go.RowKit
def LinOk (l : Lin) : Prop := 0 ≤ l.quote ∧ l.quote ≤ 6 ∧ l.lists.length ≤ 6 ∧ 0 ≤ l.kind ∧ l.kind ≤ 3 ∧ (l.lists = [] ∨ l.kind = 0) ∧ (∀ k ∈ l.lists, k = 0 ∨ k = 1) ∧ ∀ c ∈ l.cells, CelOk c
theorem put_first (a : Aro) (s : VSt) (c : Cel) (ho : s.opn = false) (hs : s.spot = 0) : putC a s c = ⟨s.lines ++ [{ frameA a with cells := [c] }], s.cells + 1, true, 0, s.pos⟩ := by
 unfold putC putV addV
 rw [if_neg (by simp [ho])]
 unfold beginV
 simp only [hs, lastD]
 simp [frameA]
theorem put_next (a : Aro) (d : List Lin) (l : Lin) (n : Nat) (sp : Int) (ps : Ps) (c : Cel) : putC a ⟨d ++ [l], n, true, sp, ps⟩ c = ⟨d ++ [{ l with cells := l.cells ++ [c] }], n + 1, true, sp, ps⟩ := by
 unfold putC putV addV
 rw [if_pos rfl]
 simp [lastD]
theorem put_rest (a : Aro) (d : List Lin) (ps : Ps) : ∀ (cs : List Cel) (l : Lin) (n : Nat), cs.foldl (putC a) ⟨d ++ [l], n, true, 0, ps⟩ = ⟨d ++ [{ l with cells := l.cells ++ cs }], n + cs.length, true, 0, ps⟩
 | [], l, n => by simp
 | c :: cs, l, n => by
  rw [List.foldl_cons, put_next, put_rest a d ps cs]
  simp only [List.append_assoc, List.singleton_append, List.length_cons]
  congr 1
  omega
theorem put_all (a : Aro) (s : VSt) (ho : s.opn = false) (hs : s.spot = 0) (cs : List Cel) (hne : cs ≠ []) : cs.foldl (putC a) s = ⟨s.lines ++ [{ frameA a with cells := cs }], s.cells + cs.length, true, 0, s.pos⟩ := by
 cases cs with
 | nil => exact absurd rfl hne
 | cons c cs =>
  rw [List.foldl_cons, put_first a s c ho hs, put_rest]
  simp only [List.singleton_append, List.length_cons]
  congr 1
  omega
def hostN (d : List Lin) : Nod := .mk 1 [] [] (hostL (lineN (gr rowK)) 13 0 d)
end Go.Proofs.Qw
namespace Go.Proofs.Qw
open Go.RowKit
theorem line_tag {l : Lin} (h : LinOk l) : tagC (lineN (gr rowK) l).tag = 3 ∧ ((lineN (gr rowK) l).tag = 9 ↔ l.lists ≠ []) ∧ (lineN (gr rowK) l).tag ≠ 1 := by
 obtain ⟨_, _, _, h4, h5, _⟩ := h
 unfold lineN
 simp only [Nod.tag]
 by_cases hl : l.lists ≠ []
 ·rw [if_pos hl]
  exact ⟨by decide, ⟨fun _ => hl, fun _ => rfl⟩, by decide⟩
 ·rw [if_neg hl]
  refine ⟨?_, ⟨fun e => by omega, fun e => absurd e hl⟩, by omega⟩
  unfold tagC
  rw [if_neg (by omega), if_neg (by omega), if_neg (by omega), if_pos (by omega)]
theorem way_at {l : Lin} (hl : LinOk l) {j : Nat} {t : Int} (h : (wayL l)[j]? = some t) : (j < l.quote.toNat ∧ t = 6) ∨ (l.quote.toNat ≤ j ∧ (t = 7 ∨ t = 8)) := by
 obtain ⟨h0, h1, _⟩ := hl
 have hm : min l.quote.toNat 6 = l.quote.toNat := by omega
 unfold wayL at h
 rw [hm] at h
 by_cases hj : j < l.quote.toNat
 ·rw [List.getElem?_append_left (by simpa using hj), List.getElem?_replicate] at h
  rw [if_pos hj] at h
  cases h
  exact .inl ⟨hj, rfl⟩
 ·rw [List.getElem?_append_right (by simp; omega), List.getElem?_map] at h
  rw [Option.map_eq_some_iff] at h
  obtain ⟨k, _, rfl⟩ := h
  exact .inr ⟨by omega, by split; exact .inl rfl; exact .inr rfl⟩
theorem way_len {l : Lin} (hl : LinOk l) : (wayL l).length = l.quote.toNat + l.lists.length := by
 obtain ⟨h0, h1, _⟩ := hl
 unfold wayL
 rw [List.length_append, List.length_replicate, List.length_map]
 omega
theorem step_get {lv : Nat} {l : Lin} (h : stepL lv l ≠ 0) : (wayL l)[lv]? = some (stepL lv l) := by
 have := (stepL_some h).1
 unfold stepL
 rw [List.getD_eq_getElem?_getD, List.getElem?_eq_getElem this]
 rfl
theorem ok_of_may {d : List Lin} (h : mayD d = true) : d ≠ [] ∧ ∀ l ∈ d, LinOk l := by
 unfold mayD at h
 simp only [Bool.and_eq_true, decide_eq_true_eq, List.all_eq_true] at h
 obtain ⟨⟨⟨h1, _⟩, _⟩, h2⟩ := h
 refine ⟨by rintro rfl; simp at h1, fun l hl => ?_⟩
 have := h2 l hl
 unfold mayL mayCs at this
 simp only [Bool.and_eq_true, Bool.or_eq_true, decide_eq_true_eq, List.all_eq_true] at this
 obtain ⟨⟨⟨⟨⟨⟨⟨g1, g2⟩, g3⟩, g4⟩, g5⟩, g6⟩, g7⟩, g8⟩ := this
 refine ⟨g1, g2, g3, g4, g5, g6, g7, fun c hc => ?_⟩
 have := g8 c hc
 unfold mayC linkF at this
 simp only [Bool.and_eq_true, Bool.or_eq_true, decide_eq_true_eq] at this
 exact ⟨this.1.1.1, this.1.1.2, this.1.2, this.2⟩
end Go.Proofs.Qw
namespace Go.Proofs.Qw
open Go.RowKit
theorem runesGo_count (s : ByteArray) : ∀ (f pos : Nat), (runesGo s f pos).length = Lib.runeCountFrom s f pos
 | 0, _ => rfl
 | f + 1, pos => by
  unfold runesGo Lib.runeCountFrom
  split
  ·rw [List.length_cons, runesGo_count s f, Nat.add_comm]
  ·rfl
theorem runesB_count (s : ByteArray) : (runesB s).length = Lib.runeCount s := runesGo_count s _ _
end Go.Proofs.Qw
namespace Go.Proofs.YteognfhemmogpaaGreatDoor
open Go.RowKit
open Go.Proofs.Qw
attribute [local go_sem] Oper.semAt_some
theorem charsCount_any (s : ByteArray) (w : World) (hs : s.size ≤ 1000000000) :
  Calls Tryz.prog 56 #[.string s] w fun e w' => e = .returned (.int .i64 (runesB s).length) ∧ Below w.heap.size w w' := by
 have HC := Lib.hid (Tryz.utf8_RuneCountInString s w (by omega))
 rw [runesB_count]
 go_enter Tryz.func56, Tryz.ntmps56
 go_wp2_with (go_at_call 73; refine HC.out.mono ?_; rintro e w1 ⟨rfl, pos, rfl⟩)
 go_ret
 refine ⟨by first | rfl | simp, (Below.refl _ _).alloc (Nat.le_refl _) _⟩
end Go.Proofs.YteognfhemmogpaaGreatDoor
namespace Go.Proofs.YteognfhemmogpaaGreatDoor
open Go.RowKit
open Go.Proofs.Qw
structure But (B : Nat) (w w' : World) : Prop where
 os : w'.os = w.os
 tape : w'.tape = w.tape
 output : w'.output = w.output
 keeps : Keeps (fun b => b ≠ B) w w'
theorem But.refl (B : Nat) (w : World) : But B w w := ⟨rfl, rfl, rfl, Keeps.refl _ _⟩
theorem But.of {B : Nat} {w w' : World} (h : Below w.heap.size w w') : But B w w' := ⟨h.os, h.tape, h.output, Keeps.all h⟩
theorem But.trans {B : Nat} {a b c : World} (h : But B a b) (k : But B b c) : But B a c := ⟨k.os.trans h.os, k.tape.trans h.tape, k.output.trans h.output, h.keeps.trans k.keeps⟩
theorem But.size {B : Nat} {a b : World} (h : But B a b) : a.heap.size ≤ b.heap.size := h.keeps.size
theorem But.set {B : Nat} {a w : World} (h : But B a w) (o : Nat) (v : Value) : But B a (w.setCell ⟨B, o, none⟩ v) := h.trans ⟨rfl, rfl, rfl, (Keeps.refl _ _).set (by simp) v⟩
theorem But.alloc {B : Nat} {a w : World} (h : But B a w) (o : Obj) : But B a (w.alloc o) := h.trans (.of ((Below.refl _ _).alloc (Nat.le_refl _) _))
theorem But.below {B n : Nat} {w w' : World} (h : But B w w') (hn : n ≤ w.heap.size) (hB : n ≤ B) : Below n w w' := ⟨h.os, h.tape, h.output, h.size, fun k hk => h.keeps.block k (by show k ≠ B; omega) (by omega)⟩
theorem But.to {B : Nat} {w w' : World} {S : Nat → Prop} (h : But B w w') (hS : ∀ b, S b → b ≠ B) : Keeps S w w' := ⟨h.size, fun b hb hz => h.keeps.block b (hS b hb) hz⟩
theorem But.heap {B b : Nat} {w w' : World} {o : Obj} (h : But B w w') (hb : b ≠ B) (e : w.heap[b]? = some o) : w'.heap[b]? = some o := by
 have hz : b < w.heap.size := by
  rw [Array.getElem?_eq_some_iff] at e
  exact e.1
 exact (h.keeps.block b hb hz).trans e
def FinAt (B : Nat) (x y : Int) (w : World) : Prop := w.heap[B]? = some (.cells #[.int .i64 x, .int .i64 y] 63)
theorem FinAt.below {B : Nat} {x y : Int} {w w' : World} (h : FinAt B x y w) (hb : Below w.heap.size w w') : FinAt B x y w' := heap_below hb h
theorem nods_but {h B : Nat} {own : Bool} {w w' : World} {S : Nat → Prop} {v : Value} {l : List Nod} (hv : NodsR own h w S v l) (hS : ∀ b, S b → b ≠ B) (hb : But B w w') : NodsR own h w' S v l := hv.stable (rdNod_stable _ _) (hb.to hS) (fun _ h _ => h)
end Go.Proofs.YteognfhemmogpaaGreatDoor
namespace Go.Proofs.Qw
open Go.RowKit
mutual
def findN : Nod → List Int → Nat → (List Int × Nod) ⊕ Nat
 | .mk _ _ _ ks, p, i => findK ks 0 p i
def findK : List Nod → Nat → List Int → Nat → (List Int × Nod) ⊕ Nat
 | [], _, _, i => .inr i
 | k :: ks, j, p, i =>
  if tagC k.tag = 3 then (match i with | 0 => .inl (p ++ [(j : Int)], k) | i + 1 => findK ks (j + 1) p i)
  else match findN k (p ++ [(j : Int)]) i with
   | .inl r => .inl r
   | .inr i => findK ks (j + 1) p i
end
mutual
def leafF : Nod → List Int → Int → (List Int × Int) ⊕ Int
 | .mk _ _ _ ks, p, c => leafK ks 0 p c
def leafK : List Nod → Nat → List Int → Int → (List Int × Int) ⊕ Int
 | [], _, _, c => .inr c
 | k :: ks, j, p, c =>
  if k.tag = 16 then (if c = 1 then .inl (p, (j : Int) + 1) else leafK ks (j + 1) p (c - 1))
  else if k.tag ≠ 0 then (match leafF k (p ++ [(j : Int)]) c with
   | .inl r => .inl r
   | .inr c => leafK ks (j + 1) p c)
  else if c ≤ ((runesB ⟨k.text.toArray⟩).length : Int) then .inl (p ++ [(j : Int)], c) else leafK ks (j + 1) p (c - ((runesB ⟨k.text.toArray⟩).length : Int))
end
theorem findK_cons (k : Nod) (ks : List Nod) (j : Nat) (p : List Int) (i : Nat) : findK (k :: ks) j p i = if tagC k.tag = 3 then (match i with | 0 => .inl (p ++ [(j : Int)], k) | i + 1 => findK ks (j + 1) p i) else match findN k (p ++ [(j : Int)]) i with | .inl r => .inl r | .inr i => findK ks (j + 1) p i := by rw [findK.eq_def]
theorem findK_nil (j : Nat) (p : List Int) (i : Nat) : findK [] j p i = .inr i := by rw [findK.eq_def]
theorem findN_kids (n : Nod) (p : List Int) (i : Nat) : findN n p i = findK n.kids 0 p i := by cases n; rw [findN]; rfl
theorem leafF_kids (n : Nod) (p : List Int) (c : Int) : leafF n p c = leafK n.kids 0 p c := by cases n; rw [leafF]; rfl
def lastPath : Nat → Nat → List Nod → List Int
 | 0, _, _ => []
 | n + 1, j, l => (((j + l.length : Nat) : Int) - 1) :: lastPath n 0 (l.getLastD default).kids
theorem parts_take {α : Type} (r : α → α → Bool) : ∀ (n : Nat) (l : List α) (i : Nat), l.length ≤ n → i < l.length →
  ∃ ps q rest m, partsBy r l = ps ++ q :: rest ∧ m < q.length ∧ (ps.flatten).length + m = i ∧ partsBy r (l.take (i + 1)) = ps ++ [q.take (m + 1)]
 | 0, l, i, hl, hi => by omega
 | n + 1, [], i, _, hi => by simp at hi
 | n + 1, a :: l, i, hl, hi => by
  have htd := List.takeWhile_append_dropWhile (p := r a) (l := l)
  by_cases hc : i < (a :: l.takeWhile (r a)).length
  ·refine ⟨[], a :: l.takeWhile (r a), partsBy r (l.dropWhile (r a)), i, by rw [parts_cons]; rfl, hc, by simp, ?_⟩
   rw [List.take_succ_cons, parts_cons]
   have hi' : i ≤ (l.takeWhile (r a)).length := by simp at hc; omega
   have e : l.take i = (l.takeWhile (r a)).take i := by
    conv => lhs; rw [← htd]
    rw [List.take_append_of_le_length hi']
   have hall : ∀ x ∈ (l.takeWhile (r a)).take i, r a x = true := fun x hx => by
    have := List.all_takeWhile (l := l) (p := r a)
    rw [List.all_eq_true] at this
    exact this x (List.mem_of_mem_take hx)
   have e1 : ((l.takeWhile (r a)).take i).takeWhile (r a) = (l.takeWhile (r a)).take i := by have := takeWhile_all (p := r a) [] hall; simpa using this
   have e2 : ((l.takeWhile (r a)).take i).dropWhile (r a) = [] := by have := dropWhile_all (p := r a) [] hall; simpa using this
   rw [e, e1, e2, parts_nil, List.take_succ_cons]
   rfl
  ·have hlen : (l.takeWhile (r a)).length + (l.dropWhile (r a)).length = l.length := by rw [← List.length_append, htd]
   simp at hc hi
   obtain ⟨ps, q, rest, m, h1, h2, h3, h4⟩ := parts_take r n (l.dropWhile (r a)) (i - 1 - (l.takeWhile (r a)).length) (by have := (List.dropWhile_suffix (l := l) (r a)).length_le; simp at hl; omega) (by omega)
   refine ⟨(a :: l.takeWhile (r a)) :: ps, q, rest, m, by rw [parts_cons, h1]; rfl, h2, ?_, ?_⟩
   ·simp only [List.flatten_cons, List.length_append, List.length_cons]
    omega
   ·rw [List.take_succ_cons, parts_cons]
    have e : l.take i = l.takeWhile (r a) ++ (l.dropWhile (r a)).take (i - (l.takeWhile (r a)).length) := by
     conv => lhs; rw [← htd]
     rw [List.take_append, List.take_of_length_le (by omega)]
    have hall : ∀ x ∈ l.takeWhile (r a), r a x = true := fun x hx => by
     have := List.all_takeWhile (l := l) (p := r a)
     rw [List.all_eq_true] at this
     exact this x hx
    have hstop : ((l.dropWhile (r a)).take (i - (l.takeWhile (r a)).length)).takeWhile (r a) = [] ∧ ((l.dropWhile (r a)).take (i - (l.takeWhile (r a)).length)).dropWhile (r a) = (l.dropWhile (r a)).take (i - (l.takeWhile (r a)).length) := by
     cases hd : l.dropWhile (r a) with
     | nil => simp
     | cons b t =>
      have hb := List.head_dropWhile_not (p := r a) (l := l) (by rw [hd]; simp)
      simp only [hd, List.head_cons] at hb
      cases hk : i - (l.takeWhile (r a)).length with
      | zero => simp
      | succ k => rw [List.take_succ_cons]; exact ⟨List.takeWhile_cons_of_neg (by simpa using hb), List.dropWhile_cons_of_neg (by simpa using hb)⟩
    rw [e, takeWhile_all _ hall, dropWhile_all _ hall, hstop.1, hstop.2, List.append_nil]
    rw [show i - (l.takeWhile (r a)).length = i - 1 - (l.takeWhile (r a)).length + 1 by omega, h4]
    rfl
theorem parts_ahead {α : Type} (r : α → α → Bool) : ∀ (ps rest : List (List α)) (l : List α), partsBy r l = ps ++ rest → partsBy r ps.flatten = ps
 | [], _, _, _ => parts_nil _
 | a :: ps, rest, [], h => by rw [parts_nil] at h; cases h
 | a :: ps, rest, x :: l, h => by
  rw [parts_cons, List.cons_append] at h
  injection h with h1 h2
  have ih := parts_ahead r ps rest _ h2
  rw [List.flatten_cons, ← h1, List.cons_append, parts_cons]
  have hall : ∀ y ∈ l.takeWhile (r x), r x y = true := fun y hy => by
   have := List.all_takeWhile (l := l) (p := r x)
   rw [List.all_eq_true] at this
   exact this y hy
  have hst : ps.flatten.takeWhile (r x) = [] ∧ ps.flatten.dropWhile (r x) = ps.flatten := by
   have hfl := parts_flat r _ (l.dropWhile (r x)) (Nat.le_refl _)
   rw [h2, List.flatten_append] at hfl
   cases hd : ps.flatten with
   | nil => simp
   | cons b t =>
    have hdd : l.dropWhile (r x) = b :: (t ++ rest.flatten) := by rw [← hfl, hd]; rfl
    have hb := List.head_dropWhile_not (p := r x) (l := l) (by rw [hdd]; simp)
    simp only [hdd, List.head_cons] at hb
    exact ⟨List.takeWhile_cons_of_neg (by simpa using hb), List.dropWhile_cons_of_neg (by simpa using hb)⟩
  rw [takeWhile_all _ hall, dropWhile_all _ hall, hst.1, hst.2, ih, List.append_nil]
theorem find_over : ∀ (n lv : Nat) (d : List Lin) (j : Nat) (p : List Int) (i : Nat) (more : List Nod), (∀ l ∈ d, LinOk l ∧ (wayL l).length < lv + n) →
  findK (hostL (lineN (gr rowK)) n lv d ++ more) j p (i + d.length) = findK more (j + (hostL (lineN (gr rowK)) n lv d).length) p i
 | 0, lv, d, j, p, i, more, h => by
  rw [hostL]
  induction d generalizing j with
  | nil => simp
  | cons l d ih =>
   have ht := (line_tag (h l (by simp)).1).1
   rw [List.map_cons, List.cons_append, findK_cons, if_pos ht]
   have := ih (j + 1) (fun x hx => h x (by simp [hx]))
   rw [show i + (l :: d).length = (i + d.length) + 1 by simp; omega]
   simp only
   rw [this]
   congr 1
   simp
   omega
 | n + 1, lv, d, j, p, i, more, h => by
  rw [hostL]
  have hfl := parts_flat (stepR lv) _ d (Nat.le_refl _)
  have hsub : ∀ q ∈ partsBy (stepR lv) d, ∀ x ∈ q, x ∈ d := fun q hq x hx => parts_sub _ _ hq hx
  have hne : ∀ q ∈ partsBy (stepR lv) d, q ≠ [] := parts_ne _ _ d (Nat.le_refl _)
  have hone : ∀ q ∈ partsBy (stepR lv) d, stepL lv (q.headD default) = 0 → q.length = 1 := by
   have : ∀ (n : Nat) (l : List Lin), l.length ≤ n → ∀ q ∈ partsBy (stepR lv) l, stepL lv (q.headD default) = 0 → q.length = 1 := by
    intro n
    induction n with
    | zero => intro l hl; have : l = [] := List.length_eq_zero_iff.1 (by omega); subst this; rw [parts_nil]; simp
    | succ n ih =>
     intro l hl q hq hs
     cases l with
     | nil => rw [parts_nil] at hq; cases hq
     | cons a l =>
      rw [parts_cons] at hq
      rcases List.mem_cons.1 hq with rfl | hq
      ·simp only [List.headD_cons] at hs
       have : l.takeWhile (stepR lv a) = [] := by
        cases l with
        | nil => rfl
        | cons b l => rw [List.takeWhile_cons_of_neg]; unfold stepR; simp [hs]
       rw [this]
       rfl
      ·exact ih _ (by have := (List.dropWhile_suffix (l := l) (stepR lv a)).length_le; simp at hl; omega) q hq hs
   exact this _ d (Nat.le_refl _)
  have key : ∀ (ps : List (List Lin)) (j i : Nat), (∀ q ∈ ps, q ∈ partsBy (stepR lv) d) →
    findK (ps.flatMap (fun p => if stepL lv (p.headD default) ≠ 0 then [.mk (stepL lv (p.headD default)) [] [] (hostL (lineN (gr rowK)) n (lv + 1) p)] else [lineN (gr rowK) (p.headD default)]) ++ more) j p (i + ps.flatten.length) = findK more (j + (ps.flatMap (fun p => if stepL lv (p.headD default) ≠ 0 then [Nod.mk (stepL lv (p.headD default)) [] [] (hostL (lineN (gr rowK)) n (lv + 1) p)] else [lineN (gr rowK) (p.headD default)])).length) p i := by
   intro ps
   induction ps with
   | nil => intro j i _; simp
   | cons q ps ih =>
    intro j i hq
    have hq0 := hq q (by simp)
    have hhead : q.headD default ∈ q := by
     cases q with
     | nil => exact absurd rfl (hne _ hq0)
     | cons a l => simp
    obtain ⟨g1, g2⟩ := h _ (hsub q hq0 _ hhead)
    rw [List.flatMap_cons, List.append_assoc]
    have ih' := ih (j + 1) i (fun x hx => hq x (by simp [hx]))
    by_cases hs : stepL lv (q.headD default) ≠ 0
    ·rw [if_pos hs, List.singleton_append, findK_cons]
     have hw := way_at g1 (step_get hs)
     have ht : ¬ tagC (Nod.mk (stepL lv (q.headD default)) [] [] (hostL (lineN (gr rowK)) n (lv + 1) q)).tag = 3 := by
      simp only [Nod.tag]
      rcases hw with ⟨_, hw⟩ | ⟨_, hw | hw⟩ <;> rw [hw] <;> decide
     rw [if_neg ht, findN_kids]
     simp only [Nod.kids]
     have := find_over n (lv + 1) q 0 (p ++ [(j : Int)]) (i + ps.flatten.length) [] (fun l hl => by
      obtain ⟨a1, a2⟩ := h l (hsub q hq0 l hl)
      exact ⟨a1, by omega⟩)
     rw [List.append_nil] at this
     rw [show i + (q :: ps).flatten.length = i + ps.flatten.length + q.length by simp; omega, this, findK_nil]
     simp only
     rw [ih']
     congr 1
     simp
     omega
    ·have hs0 : stepL lv (q.headD default) = 0 := by simpa using hs
     have ht := (line_tag g1).1
     rw [if_neg hs, List.singleton_append, findK_cons, if_pos ht]
     rw [show i + (q :: ps).flatten.length = (i + ps.flatten.length) + 1 by simp [hone q hq0 hs0]; omega]
     simp only
     rw [ih']
     congr 1
     simp
     omega
  have := key (partsBy (stepR lv) d) j i (fun q hq => hq)
  rw [hfl] at this
  exact this
theorem find_line : ∀ (n lv : Nat) (d : List Lin) (j : Nat) (p : List Int) (i : Nat) (more : List Nod), (∀ l ∈ d, LinOk l ∧ (wayL l).length < lv + n ∧ lv ≤ (wayL l).length) → ∀ l, d[i]? = some l →
  findK (hostL (lineN (gr rowK)) n lv d ++ more) j p i = .inl (p ++ lastPath ((wayL l).length - lv + 1) j (hostL (lineN (gr rowK)) n lv (d.take (i + 1))), lineN (gr rowK) l)
 | 0, lv, d, j, p, i, more, h, l, hl => by
  exfalso
  obtain ⟨_, h2, h3⟩ := h l (List.mem_of_getElem? hl)
  omega
 | n + 1, lv, d, j, p, i, more, h, l, hl => by
  have hi : i < d.length := (List.getElem?_eq_some_iff.1 hl).1
  obtain ⟨ps, q, rest, m, e1, hm, hpm, e2⟩ := parts_take (stepR lv) _ d i (Nat.le_refl _) hi
  have hq : q ∈ partsBy (stepR lv) d := by rw [e1]; simp
  have hsub : ∀ q ∈ partsBy (stepR lv) d, ∀ x ∈ q, x ∈ d := fun q hq x hx => parts_sub _ _ hq hx
  have hql : q[m]? = some l := by
   have hfl := parts_flat (stepR lv) _ d (Nat.le_refl _)
   rw [e1, List.flatten_append, List.flatten_cons] at hfl
   rw [← hfl, List.getElem?_append_right (by omega), List.getElem?_append_left (by omega)] at hl
   rw [show i - ps.flatten.length = m by omega] at hl
   exact hl
  have hhead : q.headD default ∈ q := by
   cases q with
   | nil => simp at hm
   | cons a l => simp
  have hall := step_all _ d (Nat.le_refl _) q hq
  have hqt : q.take (m + 1) ≠ [] ∧ (q.take (m + 1)).headD default = q.headD default := by
   cases q with
   | nil => simp at hm
   | cons a l => simp
  have hF : ∀ d' : List Lin, hostL (lineN (gr rowK)) (n + 1) lv d' = (partsBy (stepR lv) d').flatMap fun p => if stepL lv (p.headD default) ≠ 0 then [.mk (stepL lv (p.headD default)) [] [] (hostL (lineN (gr rowK)) n (lv + 1) p)] else [lineN (gr rowK) (p.headD default)] := fun d' => by rw [hostL]
  -- the parts ahead
  have hahead : ∃ d0 : List Lin, partsBy (stepR lv) d0 = ps ∧ d0 = ps.flatten ∧ (∀ x ∈ d0, x ∈ d) := by
   refine ⟨ps.flatten, ?_, rfl, fun x hx => ?_⟩
   ·exact parts_ahead (stepR lv) ps (q :: rest) d e1
   ·obtain ⟨q', hq', hx'⟩ := List.mem_flatten.1 hx
    exact hsub q' (by rw [e1]; simp [hq']) x hx'
  obtain ⟨d0, g1, g2, g3⟩ := hahead
  have hover := find_over (n + 1) lv d0 j p m ((q :: rest).flatMap (fun p => if stepL lv (p.headD default) ≠ 0 then [.mk (stepL lv (p.headD default)) [] [] (hostL (lineN (gr rowK)) n (lv + 1) p)] else [lineN (gr rowK) (p.headD default)]) ++ more) (fun l hl => ⟨(h l (g3 l hl)).1, (h l (g3 l hl)).2.1⟩)
  rw [hF, e1, List.flatMap_append, List.append_assoc]
  rw [hF, g1] at hover
  rw [show m + d0.length = i by rw [g2]; omega] at hover
  rw [hover, hF, e2, List.flatMap_append]
  generalize hP : (ps.flatMap fun p => if stepL lv (p.headD default) ≠ 0 then [Nod.mk (stepL lv (p.headD default)) [] [] (hostL (lineN (gr rowK)) n (lv + 1) p)] else [lineN (gr rowK) (p.headD default)]) = P
  rw [List.flatMap_cons, List.flatMap_cons, List.flatMap_nil, List.append_nil, hqt.2, List.append_assoc]
  obtain ⟨k1, k2, k3⟩ := h l (List.mem_of_getElem? hl)
  have hsl := hall l (List.mem_of_getElem? hql)
  by_cases hs : stepL lv (q.headD default) ≠ 0
  ·rw [if_pos hs, if_pos hs, List.singleton_append, findK_cons]
   have hsl' : stepL lv l ≠ 0 := hsl ▸ hs
   have hw := way_at k1 (step_get hsl')
   have hlt := (stepL_some hsl').1
   have ht : ¬ tagC (Nod.mk (stepL lv (q.headD default)) [] [] (hostL (lineN (gr rowK)) n (lv + 1) q)).tag = 3 := by
    simp only [Nod.tag]
    rw [← hsl]
    rcases hw with ⟨_, hw⟩ | ⟨_, hw | hw⟩ <;> rw [hw] <;> decide
   rw [if_neg ht, findN_kids]
   simp only [Nod.kids]
   have ih := find_line n (lv + 1) q 0 (p ++ [((j + P.length : Nat) : Int)]) m [] (fun x hx => by
    obtain ⟨a1, a2, _⟩ := h x (hsub q hq x hx)
    have hx' := hall x hx
    exact ⟨a1, by omega, (stepL_some (hx' ▸ hs)).1⟩) l hql
   rw [List.append_nil] at ih
   rw [ih]
   simp only
   congr 2
   rw [List.append_assoc]
   congr 1
   have e5 : ∀ (k : Nat) (N : Nod), lastPath (k + 1) j (P ++ [N]) = ((j + P.length : Nat) : Int) :: lastPath k 0 N.kids := fun k N => by
    rw [lastPath, List.length_append, List.length_singleton, List.getLastD_concat]
    congr 1
    omega
   rw [show (wayL l).length - lv + 1 = ((wayL l).length - (lv + 1) + 1) + 1 by omega, e5]
   rfl
  ·have hs0 : stepL lv (q.headD default) = 0 := by simpa using hs
   have hone : q.length = 1 ∧ q.headD default = l := by
    cases q with
    | nil => simp at hm
    | cons a t =>
     have hax : (a :: t) ∈ partsBy (stepR lv) d := hq
     have : t = [] := by
      have hr : ∀ (n : Nat) (l : List Lin), l.length ≤ n → ∀ q ∈ partsBy (stepR lv) l, stepL lv (q.headD default) = 0 → q.length = 1 := by
       intro n
       induction n with
       | zero => intro l hl; have : l = [] := List.length_eq_zero_iff.1 (by omega); subst this; rw [parts_nil]; simp
       | succ n ih =>
        intro l hl q hq hs
        cases l with
        | nil => rw [parts_nil] at hq; cases hq
        | cons a l =>
         rw [parts_cons] at hq
         rcases List.mem_cons.1 hq with rfl | hq
         ·simp only [List.headD_cons] at hs
          have : l.takeWhile (stepR lv a) = [] := by
           cases l with
           | nil => rfl
           | cons b l => rw [List.takeWhile_cons_of_neg]; unfold stepR; simp [hs]
          rw [this]
          rfl
         ·exact ih _ (by have := (List.dropWhile_suffix (l := l) (stepR lv a)).length_le; simp at hl; omega) q hq hs
      have := hr _ d (Nat.le_refl _) _ hax hs0
      simp at this
      exact this
     subst this
     simp at hm
     subst hm
     exact ⟨rfl, by simpa using hql⟩
   have ht := (line_tag k1).1
   have hm0 : m = 0 := by omega
   rw [if_neg hs, if_neg hs, hone.2, List.singleton_append, findK_cons, if_pos ht, hm0]
   simp only
   have hsl0 : stepL lv l = 0 := hsl.trans hs0
   have hwl : (wayL l).length = lv := by
    have := stepL_none hsl0
    have := congrArg List.length this
    rw [List.length_drop, List.length_nil] at this
    omega
   rw [hwl, Nat.sub_self, lastPath, lastPath]
   congr 3
   simp
   omega
theorem host_line {d : List Lin} (hd : ∀ l ∈ d, LinOk l) {i : Nat} {l : Lin} (hl : d[i]? = some l) : findN (hostN d) [] i = .inl (lastPath ((wayL l).length + 1) 0 (hostL (lineN (gr rowK)) 13 0 (d.take (i + 1))), lineN (gr rowK) l) := by
 unfold hostN
 rw [findN_kids]
 have := find_line 13 0 d 0 [] i [] (fun l hl => by
  have := way_len (hd l hl)
  have h1 := (hd l hl).1
  have h2 := (hd l hl).2.1
  have h3 := (hd l hl).2.2.1
  exact ⟨hd l hl, by omega, Nat.zero_le _⟩) l hl
 rw [List.append_nil] at this
 exact this
theorem leafK_cons (k : Nod) (ks : List Nod) (j : Nat) (p : List Int) (c : Int) : leafK (k :: ks) j p c = if k.tag = 16 then (if c = 1 then .inl (p, (j : Int) + 1) else leafK ks (j + 1) p (c - 1)) else if k.tag ≠ 0 then (match leafF k (p ++ [(j : Int)]) c with | .inl r => .inl r | .inr c => leafK ks (j + 1) p c) else if c ≤ ((runesB ⟨k.text.toArray⟩).length : Int) then .inl (p ++ [(j : Int)], c) else leafK ks (j + 1) p (c - ((runesB ⟨k.text.toArray⟩).length : Int)) := by rw [leafK.eq_def]
theorem leafK_nil (j : Nat) (p : List Int) (c : Int) : leafK [] j p c = .inr c := by rw [leafK.eq_def]
def behindP : Nat → Nat → List Int → List Nod → List Int × Int
 | 0, j, p, l => if (l.getLastD default).tag = 16 then (p, ((j + l.length : Nat) : Int)) else (p ++ [((j + l.length : Nat) : Int) - 1], ((runesB ⟨(l.getLastD default).text.toArray⟩).length : Int))
 | n + 1, j, p, l => behindP n 0 (p ++ [((j + l.length : Nat) : Int) - 1]) (l.getLastD default).kids
def CharOk (c : Cel) : Prop := mayR c.r = true ∨ c.r = 10
theorem leafP_runes {p : List Cel} (h : ∀ c ∈ p, CharOk c) (h10 : ∀ c ∈ p, c.r ≠ 10) (hne : p ≠ []) : leafP p = txtN (p.map (·.r)) ∧ (runesB ⟨(leafP p).text.toArray⟩).length = p.length := by
 have e : leafP p = txtN (p.map (·.r)) := by
  unfold leafP
  rw [if_neg (h10 _ (by cases p with | nil => exact absurd rfl hne | cons a l => simp))]
 refine ⟨e, ?_⟩
 rw [e]
 show (runesB ⟨(txtL (p.map (·.r))).toArray⟩).length = _
 rw [runes_back _ (fun c hc => by
  obtain ⟨x, hx, rfl⟩ := List.mem_map.1 hc
  exact (h x hx).resolve_right (h10 x hx))]
 simp
theorem leaves_over (l : List Cel) (hc : ∀ c ∈ l, CharOk c) (more : List Nod) (p : List Int) : ∀ (ps : List (List Cel)) (j : Nat) (c : Int), (∀ q ∈ ps, q ∈ partsBy textR l) → 1 ≤ c →
  leafK (ps.map leafP ++ more) j p (c + ps.flatten.length) = leafK more (j + ps.length) p c
 | [], j, c, _, _ => by simp
 | q :: ps, j, c, hq, h1 => by
  have hq0 := hq q (by simp)
  have hsub : ∀ x ∈ q, x ∈ l := fun x hx => parts_sub _ _ hq0 hx
  have hne := parts_ne textR _ l (Nat.le_refl _) q hq0
  have ih := leaves_over l hc more p ps (j + 1) c (fun x hx => hq x (by simp [hx])) h1
  rw [List.map_cons, List.cons_append, leafK_cons]
  rw [show j + (q :: ps).length = j + 1 + ps.length by simp; omega]
  rcases part_text _ l (Nat.le_refl _) q hq0 with ⟨e, h10⟩ | h10
  ·have et : (leafP q).tag = 16 := by unfold leafP; rw [if_pos h10]; rfl
   have hl : q.length = 1 := by rw [e]; rfl
   rw [if_pos et, if_neg (by simp [hl]; omega), ← ih]
   congr 1
   simp [hl]
   omega
  ·obtain ⟨e1, e2⟩ := leafP_runes (fun x hx => hc x (hsub x hx)) h10 hne
   have et : (leafP q).tag = 0 := by rw [e1]; rfl
   rw [if_neg (by rw [et]; decide), if_neg (by rw [et]; simp), e2, if_neg (by simp; omega), ← ih]
   congr 1
   simp
   omega
theorem leaves_found {l : List Cel} (hc : ∀ c ∈ l, CharOk c) {i : Nat} (hi : i < l.length) (more : List Nod) (j : Nat) (p : List Int) : leafK (leavesN l ++ more) j p ((i : Int) + 1) = .inl (behindP 0 j p (leavesN (l.take (i + 1)))) := by
 obtain ⟨ps, q, rest, m, e1, hm, hpm, e2⟩ := parts_take textR _ l i (Nat.le_refl _) hi
 have hq : q ∈ partsBy textR l := by rw [e1]; simp
 have hsub : ∀ x ∈ q, x ∈ l := fun x hx => parts_sub _ _ hq hx
 have hne := parts_ne textR _ l (Nat.le_refl _) q hq
 unfold leavesN
 rw [e1, e2, List.map_append, List.map_append, List.append_assoc, List.map_cons, List.map_cons, List.map_nil]
 have hov := leaves_over l hc (leafP q :: rest.map leafP ++ more) p ps j ((m : Int) + 1) (fun x hx => by rw [e1]; simp [hx]) (by omega)
 rw [show ((m : Int) + 1 + (ps.flatten.length : Int)) = (i : Int) + 1 by omega] at hov
 rw [hov, List.cons_append, leafK_cons]
 unfold behindP
 rw [List.getLastD_concat, List.length_append, List.length_map, List.length_singleton]
 rcases part_text _ l (Nat.le_refl _) q hq with ⟨e, h10⟩ | h10
 ·have hl : q.length = 1 := by rw [e]; rfl
  have hm0 : m = 0 := by omega
  have et : ∀ q' : List Cel, q'.headD default = q.headD default → (leafP q').tag = 16 := fun q' h => by unfold leafP; rw [h, if_pos h10]; rfl
  have hh : (q.take (m + 1)).headD default = q.headD default := by rw [hm0, e]; rfl
  rw [if_pos (et q rfl), if_pos (et _ hh), hm0]
  simp
  omega
 ·obtain ⟨f1, f2⟩ := leafP_runes (fun x hx => hc x (hsub x hx)) h10 hne
  have hne2 : q.take (m + 1) ≠ [] := by cases q with | nil => exact absurd rfl hne | cons a t => simp
  obtain ⟨g1, g2⟩ := leafP_runes (p := q.take (m + 1)) (fun x hx => hc x (hsub x (List.mem_of_mem_take hx))) (fun x hx => h10 x (List.mem_of_mem_take hx)) hne2
  have et : (leafP q).tag = 0 := by rw [f1]; rfl
  have et2 : (leafP (q.take (m + 1))).tag = 0 := by rw [g1]; rfl
  rw [if_neg (by rw [et]; decide), if_neg (by rw [et]; simp), f2, if_pos (by omega), if_neg (by rw [et2]; decide), g2]
  rw [List.length_take]
  congr 2
  ·congr 2; omega
  ·omega
def Wrapt (ks : List (Cel → Option Wr)) : Prop := ∀ k ∈ ks, ∀ c w, k c = some w → w.1 ≠ 0 ∧ w.1 ≠ 16
theorem row_over : ∀ (ks : List (Cel → Option Wr)) (l : List Cel) (j : Nat) (p : List Int) (c : Int) (more : List Nod), Wrapt ks → (∀ c ∈ l, CharOk c) → 1 ≤ c → leafK (gr ks l ++ more) j p (c + l.length) = leafK more (j + (gr ks l).length) p c
 | [], l, j, p, c, more, _, hc, h1 => by
  have := leaves_over l hc more p (partsBy textR l) j c (fun q hq => hq) h1
  rw [parts_flat textR _ l (Nat.le_refl _)] at this
  unfold gr leavesN
  rw [this, List.length_map]
 | k :: ks, l, j, p, c, more, hw, hc, h1 => by
  rw [gr]
  have hfl := parts_flat (fun a b => decide (k a = k b)) _ l (Nat.le_refl _)
  have hsub : ∀ q ∈ partsBy (fun a b => decide (k a = k b)) l, ∀ x ∈ q, x ∈ l := fun q hq x hx => parts_sub _ _ hq hx
  have key : ∀ (ps : List (List Cel)) (j : Nat) (c : Int), (∀ q ∈ ps, q ∈ partsBy (fun a b => decide (k a = k b)) l) → 1 ≤ c →
    leafK (ps.flatMap (fun p => wrapO (k (p.headD default)) (gr ks p)) ++ more) j p (c + ps.flatten.length) = leafK more (j + (ps.flatMap (fun p => wrapO (k (p.headD default)) (gr ks p))).length) p c := by
   intro ps
   induction ps with
   | nil => intro j c _ _; simp
   | cons q ps ih =>
    intro j c hq h1
    have hq0 := hq q (by simp)
    rw [List.flatMap_cons, List.append_assoc]
    have hlen : c + ((q :: ps).flatten.length : Int) = (c + (ps.flatten.length : Int)) + (q.length : Int) := by simp; omega
    rw [hlen]
    cases hk : k (q.headD default) with
    | none =>
     rw [show wrapO none (gr ks q) = gr ks q from rfl]
     rw [row_over ks q j p (c + ps.flatten.length) _ (fun k' hk' => hw k' (by simp [hk'])) (fun x hx => hc x (hsub q hq0 x hx)) (by omega)]
     rw [ih _ _ (fun x hx => hq x (by simp [hx])) h1, List.length_append, Nat.add_assoc]
    | some w =>
     obtain ⟨w0, w16⟩ := hw k (by simp) _ w hk
     rw [show wrapO (some w) (gr ks q) = [Nod.mk w.1 w.2 [] (gr ks q)] from rfl]
     rw [List.singleton_append, leafK_cons, if_neg (by simpa [Nod.tag] using w16), if_pos (by simpa [Nod.tag] using w0), leafF_kids]
     have := row_over ks q 0 (p ++ [(j : Int)]) (c + ps.flatten.length) [] (fun k' hk' => hw k' (by simp [hk'])) (fun x hx => hc x (hsub q hq0 x hx)) (by omega)
     rw [List.append_nil] at this
     simp only [Nod.kids]
     rw [this, leafK_nil]
     simp only
     rw [ih _ _ (fun x hx => hq x (by simp [hx])) h1, List.length_append, List.length_singleton, Nat.add_assoc]
  have := key (partsBy (fun a b => decide (k a = k b)) l) j c (fun q hq => hq) h1
  rw [hfl] at this
  exact this
theorem behind_more (n : Nat) (j : Nat) (p : List Int) (P N : List Nod) (h : N ≠ []) : behindP n j p (P ++ N) = behindP n (j + P.length) p N := by
 obtain ⟨m, y, rfl⟩ : ∃ m y, N = m ++ [y] := ⟨N.dropLast, N.getLast h, (List.dropLast_concat_getLast h).symm⟩
 cases n with
 | zero =>
  unfold behindP
  rw [← List.append_assoc, List.getLastD_concat, List.getLastD_concat]
  simp only [List.length_append, List.length_singleton, Nat.add_assoc]
 | succ n =>
  unfold behindP
  rw [← List.append_assoc, List.getLastD_concat, List.getLastD_concat]
  simp only [List.length_append, List.length_singleton, Nat.add_assoc]
theorem row_found : ∀ (ks : List (Cel → Option Wr)) (l : List Cel) (i j : Nat) (p : List Int) (more : List Nod) (x : Cel), Wrapt ks → (∀ c ∈ l, CharOk c) → l[i]? = some x →
  leafK (gr ks l ++ more) j p ((i : Int) + 1) = .inl (behindP (wrapsOf ks x).length j p (gr ks (l.take (i + 1))))
 | [], l, i, j, p, more, x, _, hc, hx => by
  have := leaves_found hc (List.getElem?_eq_some_iff.1 hx).1 more j p
  exact this
 | k :: ks, l, i, j, p, more, x, hw, hc, hx => by
  have hi := (List.getElem?_eq_some_iff.1 hx).1
  obtain ⟨ps, q, rest, m, e1, hm, hpm, e2⟩ := parts_take (fun a b => decide (k a = k b)) _ l i (Nat.le_refl _) hi
  have hq : q ∈ partsBy (fun a b => decide (k a = k b)) l := by rw [e1]; simp
  have hsub : ∀ q ∈ partsBy (fun a b => decide (k a = k b)) l, ∀ x ∈ q, x ∈ l := fun q hq x hx => parts_sub _ _ hq hx
  have hqx : q[m]? = some x := by
   have hfl := parts_flat (fun a b => decide (k a = k b)) _ l (Nat.le_refl _)
   rw [e1, List.flatten_append, List.flatten_cons] at hfl
   rw [← hfl, List.getElem?_append_right (by omega), List.getElem?_append_left (by omega)] at hx
   rw [show i - ps.flatten.length = m by omega] at hx
   exact hx
  have hkx : k x = k (q.headD default) := key_all _ l (Nat.le_refl _) q hq x (List.mem_of_getElem? hqx)
  have hqt : q.take (m + 1) ≠ [] ∧ (q.take (m + 1)).headD default = q.headD default := by
   cases q with
   | nil => simp at hm
   | cons a l => simp
  have hF : ∀ l' : List Cel, gr (k :: ks) l' = (partsBy (fun a b => decide (k a = k b)) l').flatMap fun p => wrapO (k (p.headD default)) (gr ks p) := fun l' => by rw [gr]
  have hov := row_over (k :: ks) ps.flatten j p ((m : Int) + 1) ((q :: rest).flatMap (fun p => wrapO (k (p.headD default)) (gr ks p)) ++ more) hw (fun c hcc => by
   obtain ⟨q', hq', hx'⟩ := List.mem_flatten.1 hcc
   exact hc c (hsub q' (by rw [e1]; simp [hq']) c hx')) (by omega)
  rw [hF, parts_ahead _ ps (q :: rest) l e1] at hov
  rw [show ((m : Int) + 1 + (ps.flatten.length : Int)) = (i : Int) + 1 by omega] at hov
  rw [hF, e1, List.flatMap_append, List.append_assoc, hov, hF, e2, List.flatMap_append]
  generalize (ps.flatMap fun p => wrapO (k (p.headD default)) (gr ks p)) = P
  rw [List.flatMap_cons, List.flatMap_cons, List.flatMap_nil, List.append_nil, hqt.2, List.append_assoc, wraps_cons, hkx]
  have hw' : Wrapt ks := fun k' hk' => hw k' (by simp [hk'])
  have hc' : ∀ c ∈ q, CharOk c := fun c hcc => hc c (hsub q hq c hcc)
  cases hk : k (q.headD default) with
  | none =>
   simp only [wrapO]
   rw [row_found ks q m (j + P.length) p _ x hw' hc' hqx, behind_more _ _ _ _ _ (gr_ne ks hqt.1)]
  | some w =>
   obtain ⟨w0, w16⟩ := hw k (by simp) _ w hk
   simp only [wrapO]
   rw [List.singleton_append, leafK_cons, if_neg (by simpa [Nod.tag] using w16), if_pos (by simpa [Nod.tag] using w0), leafF_kids]
   have := row_found ks q m 0 (p ++ [((j + P.length : Nat) : Int)]) [] x hw' hc' hqx
   rw [List.append_nil] at this
   simp only [Nod.kids]
   rw [this]
   simp only [List.length_cons]
   rw [behindP, List.getLastD_concat, List.length_append, List.length_singleton]
   simp only [Nod.kids]
   congr 2
   congr 2
   omega
theorem row_wrapt : Wrapt rowK := by
 intro k hk c w h
 unfold rowK at hk
 simp only [List.mem_cons, List.not_mem_nil, or_false] at hk
 rcases hk with rfl | rfl | rfl | rfl | rfl
 ·unfold lvHref at h
  split at h
  ·cases h
  ·injection h with h; rw [← h]; exact ⟨show (10 : Int) ≠ 0 by decide, show (10 : Int) ≠ 16 by decide⟩
 all_goals
  unfold lvBit at h
  split at h
  ·cases h
  ·injection h with h; rw [← h]; exact ⟨by decide, by decide⟩
def pointN (d : List Lin) (q : Ps) : List Int × Int :=
 match findN (hostN d) [] q.line.toNat with
 | .inl (p, n) => if q.col = 0 then (p, 0) else (match leafF n p q.col with | .inl r => r | .inr _ => ([], 0))
 | .inr _ => ([], 0)
def refPoint (d : List Lin) (q : Ps) : List Int × Int :=
 let l := d.getD q.line.toNat default
 let p := lastPath ((wayL l).length + 1) 0 (hostL (lineN (gr rowK)) 13 0 (d.take (q.line.toNat + 1)))
 if q.col = 0 then (p, 0) else behindP (wrapsOf rowK (l.cells.getD (q.col - 1).toNat default)).length 0 p (gr rowK (l.cells.take q.col.toNat))
theorem point_is {d : List Lin} (hd : ∀ l ∈ d, LinOk l) {q : Ps} (hq : isD d q = true) : pointN d q = refPoint d q := by
 unfold isD at hq
 simp only [Bool.and_eq_true, decide_eq_true_eq] at hq
 obtain ⟨⟨⟨h1, h2⟩, h3⟩, h4⟩ := hq
 have hlt : q.line.toNat < d.length := by omega
 have hl : d[q.line.toNat]? = some (d.getD q.line.toNat default) := by
  rw [List.getD_eq_getElem?_getD, List.getElem?_eq_getElem hlt]
  rfl
 unfold pointN refPoint
 rw [host_line hd hl]
 simp only
 generalize d.getD q.line.toNat default = l at *
 by_cases hz : q.col = 0
 ·rw [if_pos hz, if_pos hz]
 ·rw [if_neg hz, if_neg hz]
  have hc : (q.col - 1).toNat < l.cells.length := by omega
  have hx : l.cells[(q.col - 1).toNat]? = some (l.cells.getD (q.col - 1).toNat default) := by
   rw [List.getD_eq_getElem?_getD, List.getElem?_eq_getElem hc]
   rfl
  have hok := hd l (List.mem_of_getElem? hl)
  have := row_found rowK l.cells (q.col - 1).toNat 0 (lastPath ((wayL l).length + 1) 0 (hostL (lineN (gr rowK)) 13 0 (d.take (q.line.toNat + 1)))) [] _ row_wrapt (fun c hcc => (hok.2.2.2.2.2.2.2 c hcc).1) hx
  rw [List.append_nil] at this
  rw [leafF_kids]
  rw [show (lineN (gr rowK) l).kids = gr rowK l.cells from rfl]
  have e : ((q.col - 1).toNat : Int) + 1 = q.col := by omega
  rw [e] at this
  rw [this]
  simp only
  rw [show (q.col - 1).toNat + 1 = q.col.toNat by omega]
end Go.Proofs.Qw
namespace Go.Proofs.Qw
open Go.RowKit
theorem drop_at {α : Type} {ks : List α} {k : Nat} {x : α} (h : ks[k]? = some x) : ks.drop k = x :: ks.drop (k + 1) := by
 obtain ⟨hk, rfl⟩ := List.getElem?_eq_some_iff.1 h
 exact List.drop_eq_getElem_cons hk
theorem line_hit {ks : List Nod} {k : Nat} {x : Nod} (h : ks[k]? = some x) (p : List Int) (ht : tagC x.tag = 3) : findK (ks.drop k) k p 0 = .inl (p ++ [(k : Int)], x) := by
 rw [drop_at h, findK_cons, if_pos ht]
theorem line_skip {ks : List Nod} {k : Nat} {x : Nod} (h : ks[k]? = some x) (p : List Int) (i : Nat) (ht : tagC x.tag = 3) : findK (ks.drop k) k p (i + 1) = findK (ks.drop (k + 1)) (k + 1) p i := by
 rw [drop_at h, findK_cons, if_pos ht]
theorem line_in {ks : List Nod} {k : Nat} {x : Nod} (h : ks[k]? = some x) (p : List Int) (i : Nat) {r : List Int × Nod} (ht : tagC x.tag ≠ 3) (hr : findN x (p ++ [(k : Int)]) i = .inl r) : findK (ks.drop k) k p i = .inl r := by
 rw [drop_at h, findK_cons, if_neg ht, hr]
theorem line_past {ks : List Nod} {k : Nat} {x : Nod} (h : ks[k]? = some x) (p : List Int) (i i2 : Nat) (ht : tagC x.tag ≠ 3) (hr : findN x (p ++ [(k : Int)]) i = .inr i2) : findK (ks.drop k) k p i = findK (ks.drop (k + 1)) (k + 1) p i2 := by
 rw [drop_at h, findK_cons, if_neg ht, hr]
theorem line_end (ks : List Nod) (p : List Int) (i : Nat) : findK (ks.drop ks.length) ks.length p i = .inr i := by rw [List.drop_length, findK_nil]
theorem leaf_brk {ks : List Nod} {k : Nat} {x : Nod} (h : ks[k]? = some x) (p : List Int) (ht : x.tag = 16) : leafK (ks.drop k) k p 1 = .inl (p, (k : Int) + 1) := by
 rw [drop_at h, leafK_cons, if_pos ht, if_pos rfl]
theorem leaf_brk2 {ks : List Nod} {k : Nat} {x : Nod} (h : ks[k]? = some x) (p : List Int) (c : Int) (ht : x.tag = 16) (hc : c ≠ 1) : leafK (ks.drop k) k p c = leafK (ks.drop (k + 1)) (k + 1) p (c - 1) := by
 rw [drop_at h, leafK_cons, if_pos ht, if_neg hc]
theorem leaf_in {ks : List Nod} {k : Nat} {x : Nod} (h : ks[k]? = some x) (p : List Int) (c : Int) {r : List Int × Int} (ht : x.tag ≠ 16) (h0 : x.tag ≠ 0) (hr : leafF x (p ++ [(k : Int)]) c = .inl r) : leafK (ks.drop k) k p c = .inl r := by
 rw [drop_at h, leafK_cons, if_neg ht, if_pos h0, hr]
theorem leaf_past {ks : List Nod} {k : Nat} {x : Nod} (h : ks[k]? = some x) (p : List Int) (c c2 : Int) (ht : x.tag ≠ 16) (h0 : x.tag ≠ 0) (hr : leafF x (p ++ [(k : Int)]) c = .inr c2) : leafK (ks.drop k) k p c = leafK (ks.drop (k + 1)) (k + 1) p c2 := by
 rw [drop_at h, leafK_cons, if_neg ht, if_pos h0, hr]
theorem leaf_text {ks : List Nod} {k : Nat} {x : Nod} (h : ks[k]? = some x) (p : List Int) (c : Int) (ht : x.tag = 0) (hc : c ≤ ((runesB ⟨x.text.toArray⟩).length : Int)) : leafK (ks.drop k) k p c = .inl (p ++ [(k : Int)], c) := by
 rw [drop_at h, leafK_cons, if_neg (by rw [ht]; decide), if_neg (fun e => e ht), if_pos hc]
theorem leaf_text2 {ks : List Nod} {k : Nat} {x : Nod} (h : ks[k]? = some x) (p : List Int) (c : Int) (ht : x.tag = 0) (hc : ¬ c ≤ ((runesB ⟨x.text.toArray⟩).length : Int)) : leafK (ks.drop k) k p c = leafK (ks.drop (k + 1)) (k + 1) p (c - ((runesB ⟨x.text.toArray⟩).length : Int)) := by
 rw [drop_at h, leafK_cons, if_neg (by rw [ht]; decide), if_neg (fun e => e ht), if_neg hc]
theorem leaf_end (ks : List Nod) (p : List Int) (c : Int) : leafK (ks.drop ks.length) ks.length p c = .inr c := by rw [List.drop_length, leafK.eq_def]
end Go.Proofs.Qw
