/- The walk of the reference's hosts. -/
import Derived.Test.YteognfhemmogpaaGreatDoorRfHostPP
import Derived.Test.YteognfhemmogpaaGreatDoorTellsP
import Derived.Test.YteognfhemmogpaaGreatDoorRenFindPP
set_option linter.unusedVariables false
set_option linter.unusedSimpArgs false
namespace Go.Proofs.YteognfhemmogpaaGreatDoor
open Go.RowKit
open Go.Proofs.Qw
attribute [local go_sem ↓] Go.wp_at_zero Go.wp_at_succ
def rdPth : Rd (List Int) := fun w S vs p => ∃ v, vs = [v] ∧ IntsR true w S v p
theorem rdPth_stable : Stable rdPth := ⟨fun _ _ _ _ _ _ ⟨v, h1, h2⟩ hk hS => ⟨v, h1, SliceR.stable (rdOf_stable _) h2 hk hS⟩⟩
theorem eltPth : EltX 1 rdPth :=
 ⟨by decide, fun _ _ _ _ ⟨_, h, _⟩ => by rw [h]; rfl, fun _ _ _ _ ⟨v, h, h2⟩ u hu => by
  obtain ⟨_, _, rfl⟩ := h2.slice
  subst h
  simp at hu
  subst hu
  rfl, rdPth_stable⟩
theorem rowPth : RowT Tryz.prog 56 27 1 := RowT.mk' (y := 24) Tryz.underlying56 (by kernel_rfl) (by decide) (z := .slice none 0 0) (by rfl)
theorem src_pth {w : World} {B : Nat} {a : Option Addr} {n m : Nat} (hB : w.heap[B]? = some (.cells #[.slice a n m] 27)) (c : Nat) : Src Tryz.prog 1 56 (.slice (some ⟨B, 0, none⟩) 1 c) 1 [.slice a n m] w :=
 Src.ofSlice _ rowPth.under _ 1 c _ (by simp) (fun j u hu => by
  rw [WideShapes.add_plain, cell_of_heap hB, Nat.zero_add]
  simpa using hu) (fun u hu => by simp at hu; subst hu; rfl)
def PthB (v : Value) (w : World) : Prop := ∀ d, v.ownBlock = some d → ∃ cs, w.heap[d]? = some (.cells cs 27)
theorem pthB_of {w : World} {n : Nat} {a : Option Addr} {m c : Nat} {xs : List (List Int)} {x : List Int} (h : RwX 27 1 rdPth w n (.slice a m c) (xs ++ [x])) : PthB (.slice a m c) w := by
 obtain ⟨a', c', e, _, _, ⟨h0, _⟩ | ⟨b, o, rfl, _, _, ⟨cs, hf, _⟩, _⟩⟩ := h
 ·exact absurd h0 (by simp)
 ·cases e
  intro d hd
  cases hd
  exact ⟨cs, hf⟩
theorem keep_nodsP {h : Nat} {X Y : World} {S : Nat → Prop} {v : Value} {l : List Nod} {row : Option Nat} (hv : NodsR true h X S v l) (hg : X.grownBy Y row) (hp : ∀ d, row = some d → ∃ cs, X.heap[d]? = some (.cells cs 27)) : NodsR true h Y S v l := by
 cases row with
 | none => exact hv.stable (rdNod_stable _ _) ⟨hg.size, fun b _ hz => hg.block b hz (by simp)⟩ (fun _ h _ => h)
 | some d =>
  obtain ⟨cs, hd⟩ := hp d rfl
  have h2 : NodsR true h X (fun b => S b ∧ b ≠ d) v l := SliceR.avoidT hv hd (by decide) (fun _ _ g => rdNod_avoidT hd (by decide) (by decide) h g)
  exact h2.stable (rdNod_stable _ _) ⟨hg.size, fun b hb hz => hg.block b hz (fun e => by cases e; exact hb.2 rfl)⟩ (fun _ h _ => h.1)
set_option maxRecDepth 100000 in
set_option maxHeartbeats 8000000 in
theorem refHosts_any (v : Value) (d : List Lin) (w : World) (S : Nat → Prop) (h : LinsR w S v d) (hd : ∀ l ∈ d, LinOk l) (hdl : d.length ≤ 300) (hds : sizeD d ≤ 20000) :
  Calls Tryz.prog 26 #[v] w fun e w' => ∃ na nc pa pc, e = .returned (.tuple #[.agg #[.int .i64 1, .slice none 0 0, .string ⟨#[]⟩, .slice na (hostN d).kids.length nc], .slice pa d.length pc]) ∧ NodsR true 21 w' (fun b => w.heap.size ≤ b) (.slice na (hostN d).kids.length nc) (hostN d).kids ∧ RwX 27 1 rdPth w' w.heap.size (.slice pa d.length pc) (hostPs d d.length) ∧ Below w.heap.size w w' := by
 obtain ⟨a, ac, rfl, hac, ham, hx⟩ := lins_shape h
 have HX := Lib.hid hx
 have HD := Lib.hid hd
 obtain ⟨W1, hW1, hB, hz, hB1⟩ := one_node w (.int .i64 0) (.slice none 0 0) (.string ⟨#[]⟩) (.slice none 0 0)
 have HR1 := Lib.hid hB1
 have HB := Lib.hid hB
 have hz1 : w.heap.size < W1.heap.size := by omega
 unfold maxLen at ham
 clear h hx hd hB hB1 hz
 go_enter Tryz.func26, Tryz.ntmps26
 go_wp2_with fail
 go_loopw [4, 5, 6] (fun nv pv i wr => ∃ (k : Nat) (na : Option Addr) (nn nc : Nat) (pa : Option Addr) (pn pc : Nat), k ≤ d.length ∧ i = .int .i64 k ∧ nv = .slice na nn nc ∧ pv = .slice pa pn pc ∧ Hid (NodsR true 21 wr (fun b => W1.heap.size ≤ b) (.slice na nn nc) (hostL (lineN (gr rowK)) 13 0 (d.take k))) ∧ Hid (RwX 27 1 rdPth wr W1.heap.size (.slice pa pn pc) (hostPs d k)) ∧ Hid (Below W1.heap.size W1 wr) ∧ Hid (PthB (.slice pa pn pc) wr) ∧ Hid (Nod.counts (hostL (lineN (gr rowK)) 13 0 (d.take k)) ≤ 14 * k + 6 * sizeD (d.take k) ∧ ∀ j b, k = j + 1 → d[j]? = some b → Spine ((wayL b).length + 1) (hostL (lineN (gr rowK)) 13 0 (d.take k)))) (fun _ _ i _ => d.length - (intOf i).toNat)
 case atStart => exact ⟨0, none, 0, 0, none, 0, 0, Nat.zero_le _, rfl, rfl, rfl, Lib.hid (by rw [List.take_zero, hostL_nil]; exact SliceR.nil _ _ _ _ _ _), Lib.hid (RwX.nil _ _ _ _ _), Lib.hid (Below.refl _ _), Lib.hid (fun d hd => by cases hd), Lib.hid ⟨by rw [List.take_zero, hostL_nil]; simp [Nod.counts], fun j b e => by cases e⟩⟩
 case round =>
  obtain ⟨k, na, nn, nc, pa, pn, pc, hk, rfl, rfl, rfl, HN, HPt, HBr, HPB, HCS⟩ := hrel
  obtain rfl : k = pn := by
   obtain ⟨a', c', e⟩ := HPt.out.slice
   rw [ps_len] at e
   cases e
   rfl
  by_cases hlt : k < d.length
  ·obtain ⟨c, hc, _⟩ := getOf d k hlt
   obtain ⟨b, o, la, lc, ca, cc, rfl, hA⟩ := HX.out k c hc
   have HAT : Hid (∀ X, Below W1.heap.size W1 X → LinAt X S b (o + k * 4) c la lc ca cc) := Lib.hid fun X hX => hA.below (below_from HB.out hX)
   have hok := HD.out c (List.mem_of_getElem? hc)
   have hwl : (wayL c).length ≤ 12 := by
    have := way_len hok
    obtain ⟨a1, a2, a3, _⟩ := hok
    omega
   have hll : c.lists.length ≤ 6 := hok.2.2.1
   have hck0 : 0 ≤ c.kind := hok.2.2.2.1
   have hck3 : c.kind ≤ 3 := hok.2.2.2.2.1
   have hcl : c.cells.length ≤ 20000 := Nat.le_trans (cells_le hc) hds
   obtain ⟨W, hW⟩ : ∃ W, tagW (wayL c) = W := ⟨_, rfl⟩
   have hWl : W.length = (wayL c).length := by rw [← hW]; unfold tagW; simp
   have hW12 : W.length ≤ 12 := by omega
   have HWc : Hid (∀ X, Below W1.heap.size W1 X → Calls Tryz.prog 50 #[.agg #[.int .i64 c.quote, .slice la c.lists.length lc, .int .i64 c.kind, .slice ca c.cells.length cc]] X fun e X' => ∃ wa wc, e = .returned (.slice wa W.length wc) ∧ NodsR true 1 X' (fun b => W1.heap.size ≤ b) (.slice wa W.length wc) (W.map wrN) ∧ Below X.heap.size X X') := Lib.hid fun X hX => (boxes_any c (.slice la c.lists.length lc) ca c.cells.length cc X X S ((HAT.out X hX).listsR) (Below.refl _ _) (by omega)).mono fun _ _ ⟨v', h1, h2, h3⟩ => by
    rw [hW] at h2
    have h2 := (RwX.base (rdNod_stable _ _) h2 hX.size).row (rdNod_stable _ _)
    obtain ⟨wa, wc, rfl⟩ := h2.slice
    rw [List.length_map] at h1 h2
    exact ⟨wa, wc, h1, h2, h3⟩
   obtain ⟨T, hT⟩ : ∃ T, (lineN (gr rowK) c).tag = T := ⟨_, rfl⟩
   obtain ⟨K, hK⟩ : ∃ K, gr rowK c.cells = K := ⟨_, rfl⟩
   have HNd : Hid (∀ X, Below W1.heap.size W1 X → Calls Tryz.prog 53 #[.agg #[.int .i64 c.quote, .slice la c.lists.length lc, .int .i64 c.kind, .slice ca c.cells.length cc]] X fun e X' => ∃ ka kc, e = .returned (.agg #[.int .i64 T, .slice none 0 0, .string ⟨#[]⟩, .slice ka K.length kc]) ∧ NodsR true 8 X' (fun b => X.heap.size ≤ b) (.slice ka K.length kc) K ∧ Below X.heap.size X X') := Lib.hid fun X hX => by
    have := refNode_any c la lc ca cc X X S ((HAT.out X hX).cellsR) (Below.refl _ _) hck0 hck3 hcl
    rw [hT, hK] at this
    exact this
   obtain ⟨G, hG⟩ : ∃ G, hostL (lineN (gr rowK)) 13 0 (d.take (k + 1)) = G := ⟨_, rfl⟩
   obtain ⟨P, hP⟩ : ∃ P, lastPath (W.length + 1) 0 G = P := ⟨_, rfl⟩
   have HPS := Lib.hid (ps_snoc hc)
   rw [hG, ← hWl, hP] at HPS
   have HNS : Hid (∀ X, Below wr.heap.size wr X → NodsR true 21 X (fun b => W1.heap.size ≤ b) (.slice na nn nc) (hostL (lineN (gr rowK)) 13 0 (d.take k))) := Lib.hid fun X hX => HN.out.below (rdNod_stable _ _) hX
   have HPS0 : Hid (∀ X, Below wr.heap.size wr X → RwX 27 1 rdPth X W1.heap.size (.slice pa k pc) (hostPs d k)) := Lib.hid fun X hX => HPt.out.below rdPth_stable (Keeps.all hX)
   have hpl : (hostPs d k).length + 1 ≤ 100000000 := by rw [ps_len]; omega
   have hdt := size_le d (k + 1)
   have hdt0 := size_le d k
   have hdtk := size_take hc
   have hlc := line_count c
   have hx0 : Below W1.heap.size W1 wr := HBr.out
   have hr0 : Below wr.heap.size wr wr := Below.refl _ _
   obtain ⟨_, c0, c1, c2, c3, _, _⟩ := HAT.out _ hx0
   have i0 : (0 : Int) ≤ (k : Int) := Int.natCast_nonneg _
   have i1 : (k : Int) < (d.length : Int) := by omega
   obtain ⟨ns, hns⟩ : ∃ ns, hostL (lineN (gr rowK)) 13 0 (d.take k) = ns := ⟨_, rfl⟩
   have hcs := HCS.out
   rw [hns] at HN HNS hcs
   rcases Nat.eq_zero_or_pos k with hk0 | hk0
   ·have hd0 : decide ((0 : Int) < (k : Int)) = false := decide_eq_false (by omega)
    have hd1 : decide (0 < k) = false := decide_eq_false (by omega)
    have hn0 : ns = [] := by rw [← hns, hk0, List.take_zero, hostL_nil]
    have hsW : 0 ≤ W.length := Nat.zero_le _
    have hsp : Spine 0 ns := trivial
    have hGe : putW ns W (lineN (gr rowK) c) 0 = G := by rw [hn0, ← hG, ← hW, hk0]; exact (host_first (by rw [← hk0]; exact hc) (by omega)).symm
    have HPu : Hid (∀ X wa wc ka kc, Below W1.heap.size W1 X → NodsR true 21 X (fun b => W1.heap.size ≤ b) (.slice na nn nc) ns → NodsR true 1 X (fun b => W1.heap.size ≤ b) (.slice wa W.length wc) (W.map wrN) → NodsR true 8 X (fun b => W1.heap.size ≤ b) (.slice ka K.length kc) K → Calls Tryz.prog 52 #[.slice na nn nc, .slice wa W.length wc, .agg #[.int .i64 T, .slice none 0 0, .string ⟨#[]⟩, .slice ka K.length kc], .int .i64 0] X fun e X' => ∃ va vc, e = .returned (.slice va G.length vc) ∧ NodsR true 21 X' (fun b => W1.heap.size ≤ b) (.slice va G.length vc) G ∧ Below X.heap.size X X') := Lib.hid fun X wa wc ka kc hX hn hw hk => by
     subst hT
     subst hK
     refine (put_all 0 21 8 _ _ (.slice none 0 0) (.slice ka (gr rowK c.cells).length kc) ns W (lineN (gr rowK) c) X (fun b => W1.heap.size ≤ b ∧ b < X.heap.size) (hn.stable (rdNod_stable _ _) (Keeps.refl _ _) (fun b hb hz => ⟨hb, hz⟩)) (hw.stable (rdNod_stable _ _) (Keeps.refl _ _) (fun b hb hz => ⟨hb, hz⟩)) (SliceR.nil _ _ _ _ _ _) (hk.stable (rdNod_stable _ _) (Keeps.refl _ _) (fun b hb hz => ⟨hb, hz⟩)) (fun b hb => hb.2) (by omega) hsW hsp (by omega) (by omega)).mono ?_
     rintro e X' ⟨v', h1, h2, h3⟩
     rw [hGe] at h2
     have h2 := h2.stable (rdNod_stable _ _) (Keeps.refl _ _) (S' := fun b => W1.heap.size ≤ b) (fun b hb _ => by
      have := hX.size
      rcases hb with hb | hb
      ·exact hb.1
      ·omega)
     obtain ⟨va, vc, rfl⟩ := h2.slice
     exact ⟨va, vc, h1, h2, h3⟩
    have HKN : Hid (∀ (Y X : World) ka kc, NodsR true 8 X (fun b => Y.heap.size ≤ b) (.slice ka K.length kc) K → Below W1.heap.size W1 Y → NodsR true 8 X (fun b => W1.heap.size ≤ b) (.slice ka K.length kc) K) := Lib.hid fun Y X ka kc hk hY => hk.stable (rdNod_stable _ _) (Keeps.refl _ _) (fun b hb _ => Nat.le_trans hY.size hb)
    have hGs : Spine (W.length + 1) G := hGe ▸ spine_put _ ns W _ hsp hsW
    have hGc : Nod.counts G ≤ 14 * (k + 1) + 6 * sizeD (d.take (k + 1)) := by
     have := put_count 0 ns W (lineN (gr rowK) c) hsp
     rw [hGe] at this
     have h1 := hcs.1
     omega
    have HGS : Hid (Spine (W.length + 1) G ∧ Nod.counts G ≤ 1000000) := Lib.hid ⟨hGs, by omega⟩
    have HCS2 : Hid (Nod.counts G ≤ 14 * (k + 1) + 6 * sizeD (d.take (k + 1)) ∧ ∀ j b, k + 1 = j + 1 → d[j]? = some b → Spine ((wayL b).length + 1) G) := Lib.hid ⟨hGc, fun j b e hb => by
     obtain rfl : j = k := by omega
     rw [hc] at hb
     cases hb
     rw [← hWl]
     exact hGs⟩
    have HGG := Lib.hid hG
    have HPP := Lib.hid hP
    clear hn0
    clear hT hK hG hP hc hA hok hdt hdt0 hdtk hlc hcs hGs hGc hGe hsp hsW hns hW hwl hWl hk0
    go_wp2_with (first
     | (go_at_call 50; (with_reducible refine (HWc.out _ (by assumption)).mono ?_); rintro e w2 ⟨wa, wc, rfl, hw2, hb2⟩; have HWN : Hid (∀ X, Below w2.heap.size w2 X → NodsR true 1 X (fun b => W1.heap.size ≤ b) (.slice wa W.length wc) (W.map wrN)) := Lib.hid fun X hX => hw2.below (rdNod_stable _ _) hX; have hx2 : Below W1.heap.size W1 w2 := below_from (by assumption) hb2; have hr2 : Below wr.heap.size wr w2 := hb2; have hy2 : Below w2.heap.size w2 w2 := Below.refl _ _; obtain ⟨_, e0, e1, e2, e3, _, _⟩ := HAT.out _ hx2;  clear hw2 hb2)
     | (go_at_call 53; (with_reducible refine (HNd.out _ (by assumption)).mono ?_); rintro e w5 ⟨ka, kc, rfl, hk5, hb5⟩; have hx5 : Below W1.heap.size W1 w5 := below_from (by assumption) hb5; have hr5 : Below wr.heap.size wr w5 := below_from (by assumption) hb5; have hy5 : Below w2.heap.size w2 w5 := below_from (by assumption) hb5; have HK5 := Lib.hid hk5; have HZ5 : Hid (W1.heap.size ≤ _) := Lib.hid (Below.size (by assumption : Below W1.heap.size W1 w5)); clear hk5 hb5)
     | (go_at_call 52; (with_reducible refine (HPu.out _ _ _ _ _ hx5 (HNS.out _ hr5) (HWN.out _ hy5) (HKN.out _ _ _ _ HK5.out (by assumption))).mono ?_); rintro e w6 ⟨va, vc, rfl, hg6, hb6⟩; have HG6 := Lib.hid hg6; have hx6 : Below W1.heap.size W1 w6 := below_from hx5 hb6; have hr6 : Below wr.heap.size wr w6 := below_from hr5 hb6; clear hg6 hb6))
    go_loopw [9, 10, 11] (fun pv gv jv wi => ∃ (q hh : Nat) (g : List Nod) (ga : Option Addr) (gn gc : Nat) (ra : Option Addr) (rn rc : Nat) (p : List Int), q ≤ W.length + 1 ∧ jv = .int .i64 q ∧ gv = .slice ga gn gc ∧ pv = .slice ra rn rc ∧ p.length = q ∧ Hid (NodsR false hh wi (fun b => W1.heap.size ≤ b ∧ b < w6.heap.size) (.slice ga gn gc) g) ∧ Hid (IntsR true wi (fun b => w6.heap.size ≤ b) (.slice ra rn rc) p) ∧ Hid (Spine (W.length + 1 - q) g ∧ p ++ lastPath (W.length + 1 - q) 0 g = P ∧ Nod.counts g ≤ 1000000) ∧ Hid (Below w6.heap.size w6 wi)) (fun _ _ j _ => W.length + 1 - (intOf j).toNat)
    case atStart => exact ⟨0, 21, G, va, _, vc, none, 0, 0, [], Nat.zero_le _, rfl, rfl, rfl, rfl, Lib.hid ((HG6.out.read fun _ _ g => rdNod_read g).stable (rdNod_stable _ _) (Keeps.refl _ _) (fun b hb hz => ⟨hb, hz⟩)), Lib.hid (SliceR.nil _ _ _ _ _ _), Lib.hid ⟨HGS.out.1, HPP.out, HGS.out.2⟩, Lib.hid (Below.refl _ _)⟩
    case round =>
     obtain ⟨q, hh, g, ga, gn, gc, ra, rn, rc, p, hq, rfl, rfl, rfl, hpq, HG, HI, HSG, HBi⟩ := hrel
     have hwi := HBi.out.size
     have q0 : (0 : Int) ≤ (q : Int) := Int.natCast_nonneg _
     by_cases hlt2 : q < W.length + 1
     ·have hdq : decide ((q : Int) ≤ (W.length : Int)) = true := decide_eq_true (by omega)
      have hdq2 : decide (q ≤ W.length) = true := decide_eq_true (by omega)
      have hsg := HSG.out
      rw [show W.length + 1 - q = (W.length - q) + 1 by omega] at hsg
      obtain ⟨⟨xs, z, rfl, hspz⟩, hpp, hgc⟩ := hsg
      rw [path_in] at hpp
      obtain ⟨hcz, hxl⟩ := counts_kids_le hgc
      obtain ⟨ga', gc', e', hvc, hvm, hx⟩ := nods_shapeS HG.out
      cases e'
      obtain ⟨gb, go, za, zc, zk, zkc, h', rfl, rfl, hSb, hA⟩ := hx xs.length z (by simp)
      obtain ⟨hbz, _, _, _, k3, _, hzk⟩ := hA
      have HZK := Lib.hid hzk
      have hwl : IntKind.i64.wrap ((xs.length : Int) + 1 - 1) = (xs.length : Int) := by rw [IntKind.wrap_i64]; omega
      have x0 : (0 : Int) ≤ (xs.length : Int) := Int.natCast_nonneg _
      have x1 : (xs.length : Int) < (xs.length : Int) + 1 := by omega
      have hrl : p.length + [(xs.length : Int)].length ≤ 100000000 := by simp; omega
      have hsl : (xs ++ [z]).length = xs.length + 1 := by simp
      have hgb : gb < w6.heap.size := hSb.2
      obtain rfl : rn = p.length := (SliceR.len HI.out).1
      have HFIN : Hid (Spine (W.length + 1 - (q + 1)) z.kids ∧ (p ++ [(xs.length : Int)]) ++ lastPath (W.length + 1 - (q + 1)) 0 z.kids = P ∧ Nod.counts z.kids ≤ 1000000) := Lib.hid (by
       rw [show W.length + 1 - (q + 1) = W.length - q by omega]
       exact ⟨hspz, by rw [← hpp, List.append_assoc]; rfl, hcz⟩)
      clear hzk hx hpp hspz
      go_wp2_with (at_builtin; go_must (refine wpList_append_R _ rfl _ _ 27 27 rfl rowInt eltInt w6.heap.size (.slice ra p.length rc) _ (xs := p) (ys := [(xs.length : Int)]) (news := [.int .i64 xs.length]) rfl rfl (HI.out.stable (rdOf_stable _) (.all ((Below.refl _ _).alloc (Nat.le_refl _) _)) (fun _ h _ => h)) (by simp; omega) (src_tag _ _ 1 (by simp)) (NewsR.one rfl rfl) hrl ?_); intro v8 w8 hR8 hB8 _ _; obtain ⟨qa, qn, qc, hne⟩ := slice_any' hR8; subst hne; have HR8 := Lib.hid hR8; have hx8 := Lib.hid (((Below.refl w6.heap.size _).alloc hwi _).trans hB8); have k3' := (World.cell?_of_block (a := ⟨gb, go + xs.length * 4 + 3, none⟩) (hx8.out.block gb hgb)).trans k3; clear hR8 hB8)
      go_roundw
      case rel => exact ⟨q + 1, h', z.kids, zk, _, zkc, qa, qn, qc, p ++ [(xs.length : Int)], hlt2, by go_num, rfl, rfl, by simp; omega, Lib.hid (HZK.out.stable (rdNod_stable _ _) (Keeps.of_below hx8.out (fun b hb _ => hb.2)) (fun _ h _ => h)), HR8, HFIN, Lib.hid (HBi.out.trans hx8.out)⟩
      case measure => simp [intOf]; omega
     ·obtain rfl : q = W.length + 1 := by omega
      have hdq : decide (((W.length + 1 : Nat) : Int) ≤ (W.length : Int)) = false := decide_eq_false (by omega)
      have hdq2 : decide ((W.length : Int) + 1 ≤ (W.length : Int)) = false := decide_eq_false (by omega)
      have hsg := HSG.out
      rw [Nat.sub_self] at hsg
      obtain rfl : p = P := by
       have := hsg.2.1
       rw [lastPath, List.append_nil] at this
       exact this
      obtain rfl : rn = p.length := (SliceR.len HI.out).1
      clear hsg hpq
      go_wp2_with (at_builtin; go_must (refine wpList_append_X _ rfl _ _ 56 56 rfl rowPth eltPth W1.heap.size (.slice pa k pc) _ (xs := hostPs d k) (ys := [p]) (news := [.slice ra p.length rc]) rfl rfl (HPS0.out _ (below1R (below_from hr6 HBi.out) _)) (below1R (below_from hx6 HBi.out) _).size (src_pth (heap_new _ _ rfl) 1) (news_apart rdPth_stable (HPS0.out _ hr6) hx6.size (NewsR.one rfl ⟨_, rfl, HI.out.below (rdOf_stable _) ((Below.refl _ _).alloc (Nat.le_refl _) _)⟩)) hpl ?_); intro v8 w8 hR8 hB8 hG8 _; rw [← HPS.out] at hR8; obtain ⟨ua, un, uc, hve⟩ := slice_anyX hR8; subst hve; have HR8 := Lib.hid hR8; have HG8 := Lib.hid hG8; have HB8 := Lib.hid hB8; clear hR8 hB8 hG8)
      go_roundw
      case rel => exact ⟨k + 1, va, _, vc, ua, un, uc, hlt, by go_num, rfl, rfl, Lib.hid (by rw [HGG.out]; exact keep_nodsP ((HG6.out.below (rdNod_stable _ _) HBi.out).below (rdNod_stable _ _) ((Below.refl _ _).alloc (Nat.le_refl _) _)) HG8.out (fun d hd => by obtain ⟨cs, hcs⟩ := HPB.out d hd; exact ⟨cs, heap_old _ _ (heap_below (below_from hr6 HBi.out) hcs)⟩)), HR8, Lib.hid (Below.trans (below1R (below_from hx6 HBi.out) _) HB8.out), Lib.hid (pthB_of (HPS.out ▸ HR8.out)), Lib.hid (by rw [HGG.out]; exact HCS2.out)⟩
      case measure => simp [intOf]; omega
   ·obtain ⟨j, hj⟩ : ∃ j, k = j + 1 := ⟨k - 1, by omega⟩
    obtain ⟨p0, hp, _⟩ := getOf d j (by omega)
    obtain ⟨b', o', bla, blc, bca, bcc, e', hA2⟩ := HX.out j p0 hp
    cases e'
    have HATb : Hid (∀ X, Below W1.heap.size W1 X → LinAt X S b (o + j * 4) p0 bla blc bca bcc) := Lib.hid fun X hX => hA2.below (below_from HB.out hX)
    have hok2 := HD.out p0 (List.mem_of_getElem? hp)
    have hbl : p0.lists.length ≤ 6 := hok2.2.2.1
    have hd0 : decide ((0 : Int) < (k : Int)) = true := decide_eq_true (by omega)
    have hd1 : decide (0 < k) = true := decide_eq_true (by omega)
    have hwk : IntKind.i64.wrap ((k : Int) - 1) = (j : Int) := by rw [IntKind.wrap_i64]; omega
    have j0 : (0 : Int) ≤ (j : Int) := Int.natCast_nonneg _
    have j1 : (j : Int) < (d.length : Int) := by omega
    obtain ⟨Wb, hWb⟩ : ∃ Wb, tagW (wayL p0) = Wb := ⟨_, rfl⟩
    have hWbl : Wb.length = (wayL p0).length := by rw [← hWb]; unfold tagW; simp
    have hwb : (wayL p0).length ≤ 12 := by
     have := way_len hok2
     obtain ⟨a1, a2, a3, _⟩ := hok2
     omega
    have HWb : Hid (∀ X, Below W1.heap.size W1 X → Calls Tryz.prog 50 #[.agg #[.int .i64 p0.quote, .slice bla p0.lists.length blc, .int .i64 p0.kind, .slice bca p0.cells.length bcc]] X fun e X' => ∃ wa wc, e = .returned (.slice wa Wb.length wc) ∧ NodsR true 1 X' (fun b => W1.heap.size ≤ b) (.slice wa Wb.length wc) (Wb.map wrN) ∧ Below X.heap.size X X') := Lib.hid fun X hX => (boxes_any p0 (.slice bla p0.lists.length blc) bca p0.cells.length bcc X X S ((HATb.out X hX).listsR) (Below.refl _ _) (by omega)).mono fun _ _ ⟨v', h1, h2, h3⟩ => by
     rw [hWb] at h2
     have h2 := (RwX.base (rdNod_stable _ _) h2 hX.size).row (rdNod_stable _ _)
     obtain ⟨wa, wc, rfl⟩ := h2.slice
     rw [List.length_map] at h1 h2
     exact ⟨wa, wc, h1, h2, h3⟩
    obtain ⟨s, hs⟩ : ∃ s, sharedW Wb W = s := ⟨_, rfl⟩
    have hsl := shared_le Wb W
    rw [hs] at hsl
    have HSh : Hid (∀ X ba bc wa wc, NodsR true 1 X (fun b => W1.heap.size ≤ b) (.slice ba Wb.length bc) (Wb.map wrN) → NodsR true 1 X (fun b => W1.heap.size ≤ b) (.slice wa W.length wc) (W.map wrN) → Calls Tryz.prog 51 #[.slice ba Wb.length bc, .slice wa W.length wc] X fun e X' => e = .returned (.int .i64 s) ∧ Below X.heap.size X X') := Lib.hid fun X ba bc wa wc h1 h2 => by
     have := shared_any 1 _ _ _ _ X _ _ (h1.read fun _ _ g => rdNod_read g) (h2.read fun _ _ g => rdNod_read g) (by rw [List.length_map]; omega)
     rw [sharedN_map, hs] at this
     exact this
    have hspn : Spine (Wb.length + 1) ns := by
     rw [hWbl]
     exact hcs.2 j p0 hj hp
    have hsp : Spine s ns := spine_down (by omega) hspn
    have hsW : s ≤ W.length := hsl.2
    have hGe : putW ns W (lineN (gr rowK) c) s = G := by
     rw [← hG, ← hns, ← hs, ← hWb, ← hW, hj]
     exact (host_next hp (by rw [← hj]; exact hc) (by omega)).symm
    obtain ⟨_, d0, d1, d2, d3, _, _⟩ := HATb.out _ hx0
    have HPu : Hid (∀ X wa wc ka kc, Below W1.heap.size W1 X → NodsR true 21 X (fun b => W1.heap.size ≤ b) (.slice na nn nc) ns → NodsR true 1 X (fun b => W1.heap.size ≤ b) (.slice wa W.length wc) (W.map wrN) → NodsR true 8 X (fun b => W1.heap.size ≤ b) (.slice ka K.length kc) K → Calls Tryz.prog 52 #[.slice na nn nc, .slice wa W.length wc, .agg #[.int .i64 T, .slice none 0 0, .string ⟨#[]⟩, .slice ka K.length kc], .int .i64 s] X fun e X' => ∃ va vc, e = .returned (.slice va G.length vc) ∧ NodsR true 21 X' (fun b => W1.heap.size ≤ b) (.slice va G.length vc) G ∧ Below X.heap.size X X') := Lib.hid fun X wa wc ka kc hX hn hw hk => by
     subst hT
     subst hK
     refine (put_all s 21 8 _ _ (.slice none 0 0) (.slice ka (gr rowK c.cells).length kc) ns W (lineN (gr rowK) c) X (fun b => W1.heap.size ≤ b ∧ b < X.heap.size) (hn.stable (rdNod_stable _ _) (Keeps.refl _ _) (fun b hb hz => ⟨hb, hz⟩)) (hw.stable (rdNod_stable _ _) (Keeps.refl _ _) (fun b hb hz => ⟨hb, hz⟩)) (SliceR.nil _ _ _ _ _ _) (hk.stable (rdNod_stable _ _) (Keeps.refl _ _) (fun b hb hz => ⟨hb, hz⟩)) (fun b hb => hb.2) (by omega) hsW hsp (by omega) (by omega)).mono ?_
     rintro e X' ⟨v', h1, h2, h3⟩
     rw [hGe] at h2
     have h2 := h2.stable (rdNod_stable _ _) (Keeps.refl _ _) (S' := fun b => W1.heap.size ≤ b) (fun b hb _ => by
      have := hX.size
      rcases hb with hb | hb
      ·exact hb.1
      ·omega)
     obtain ⟨va, vc, rfl⟩ := h2.slice
     exact ⟨va, vc, h1, h2, h3⟩
    have HKN : Hid (∀ (Y X : World) ka kc, NodsR true 8 X (fun b => Y.heap.size ≤ b) (.slice ka K.length kc) K → Below W1.heap.size W1 Y → NodsR true 8 X (fun b => W1.heap.size ≤ b) (.slice ka K.length kc) K) := Lib.hid fun Y X ka kc hk hY => hk.stable (rdNod_stable _ _) (Keeps.refl _ _) (fun b hb _ => Nat.le_trans hY.size hb)
    have hGs : Spine (W.length + 1) G := hGe ▸ spine_put _ ns W _ hsp hsW
    have hGc : Nod.counts G ≤ 14 * (k + 1) + 6 * sizeD (d.take (k + 1)) := by
     have := put_count s ns W (lineN (gr rowK) c) hsp
     rw [hGe] at this
     have h1 := hcs.1
     omega
    have HGS : Hid (Spine (W.length + 1) G ∧ Nod.counts G ≤ 1000000) := Lib.hid ⟨hGs, by omega⟩
    have HCS2 : Hid (Nod.counts G ≤ 14 * (k + 1) + 6 * sizeD (d.take (k + 1)) ∧ ∀ j b, k + 1 = j + 1 → d[j]? = some b → Spine ((wayL b).length + 1) G) := Lib.hid ⟨hGc, fun j b e hb => by
     obtain rfl : j = k := by omega
     rw [hc] at hb
     cases hb
     rw [← hWl]
     exact hGs⟩
    have HGG := Lib.hid hG
    have HPP := Lib.hid hP
    clear hT hK hG hP hc hA hok hdt hdt0 hdtk hlc hcs hGs hGc hGe hsp hsW hns hW hwl hWl hk0
    clear hj hp hs hWb hWbl hwb hsl hspn hok2 hA2
    go_wp2_with (first
     | (go_at_call 50; (with_reducible refine (HWc.out _ (by assumption)).mono ?_); rintro e w2 ⟨wa, wc, rfl, hw2, hb2⟩; have HWN : Hid (∀ X, Below w2.heap.size w2 X → NodsR true 1 X (fun b => W1.heap.size ≤ b) (.slice wa W.length wc) (W.map wrN)) := Lib.hid fun X hX => hw2.below (rdNod_stable _ _) hX; have hx2 : Below W1.heap.size W1 w2 := below_from (by assumption) hb2; have hr2 : Below wr.heap.size wr w2 := hb2; have hy2 : Below w2.heap.size w2 w2 := Below.refl _ _; obtain ⟨_, e0, e1, e2, e3, _, _⟩ := HAT.out _ hx2; obtain ⟨_, d0, d1, d2, d3, _, _⟩ := HATb.out _ hx2; clear hw2 hb2)
     | (go_at_call 50; (with_reducible refine (HWb.out _ (by assumption)).mono ?_); rintro e w3 ⟨ba, bc, rfl, hw3, hb3⟩; have HW3 := Lib.hid hw3; have hx3 : Below W1.heap.size W1 w3 := below_from (by assumption) hb3; have hr3 : Below wr.heap.size wr w3 := below_from (by assumption) hb3; have hy3 : Below w2.heap.size w2 w3 := below_from (by assumption) hb3; obtain ⟨_, e0, e1, e2, e3, _, _⟩ := HAT.out _ hx3; clear hw3 hb3)
     | (go_at_call 51; (with_reducible refine (HSh.out _ _ _ _ _ HW3.out (HWN.out _ (by assumption))).mono ?_); rintro e w4 ⟨rfl, hb4⟩; have hx4 : Below W1.heap.size W1 w4 := below_from (by assumption) hb4; have hr4 : Below wr.heap.size wr w4 := below_from (by assumption) hb4; have hy4 : Below w2.heap.size w2 w4 := below_from (by assumption) hb4; obtain ⟨_, e0, e1, e2, e3, _, _⟩ := HAT.out _ hx4; clear hb4)
     | (go_at_call 53; (with_reducible refine (HNd.out _ (by assumption)).mono ?_); rintro e w5 ⟨ka, kc, rfl, hk5, hb5⟩; have hx5 : Below W1.heap.size W1 w5 := below_from (by assumption) hb5; have hr5 : Below wr.heap.size wr w5 := below_from (by assumption) hb5; have hy5 : Below w2.heap.size w2 w5 := below_from (by assumption) hb5; have HK5 := Lib.hid hk5; have HZ5 : Hid (W1.heap.size ≤ _) := Lib.hid (Below.size (by assumption : Below W1.heap.size W1 w5)); clear hk5 hb5)
     | (go_at_call 52; (with_reducible refine (HPu.out _ _ _ _ _ hx5 (HNS.out _ hr5) (HWN.out _ hy5) (HKN.out _ _ _ _ HK5.out (by assumption))).mono ?_); rintro e w6 ⟨va, vc, rfl, hg6, hb6⟩; have HG6 := Lib.hid hg6; have hx6 : Below W1.heap.size W1 w6 := below_from hx5 hb6; have hr6 : Below wr.heap.size wr w6 := below_from hr5 hb6; clear hg6 hb6))
    go_loopw [9, 10, 11] (fun pv gv jv wi => ∃ (q hh : Nat) (g : List Nod) (ga : Option Addr) (gn gc : Nat) (ra : Option Addr) (rn rc : Nat) (p : List Int), q ≤ W.length + 1 ∧ jv = .int .i64 q ∧ gv = .slice ga gn gc ∧ pv = .slice ra rn rc ∧ p.length = q ∧ Hid (NodsR false hh wi (fun b => W1.heap.size ≤ b ∧ b < w6.heap.size) (.slice ga gn gc) g) ∧ Hid (IntsR true wi (fun b => w6.heap.size ≤ b) (.slice ra rn rc) p) ∧ Hid (Spine (W.length + 1 - q) g ∧ p ++ lastPath (W.length + 1 - q) 0 g = P ∧ Nod.counts g ≤ 1000000) ∧ Hid (Below w6.heap.size w6 wi)) (fun _ _ j _ => W.length + 1 - (intOf j).toNat)
    case atStart => exact ⟨0, 21, G, va, _, vc, none, 0, 0, [], Nat.zero_le _, rfl, rfl, rfl, rfl, Lib.hid ((HG6.out.read fun _ _ g => rdNod_read g).stable (rdNod_stable _ _) (Keeps.refl _ _) (fun b hb hz => ⟨hb, hz⟩)), Lib.hid (SliceR.nil _ _ _ _ _ _), Lib.hid ⟨HGS.out.1, HPP.out, HGS.out.2⟩, Lib.hid (Below.refl _ _)⟩
    case round =>
     obtain ⟨q, hh, g, ga, gn, gc, ra, rn, rc, p, hq, rfl, rfl, rfl, hpq, HG, HI, HSG, HBi⟩ := hrel
     have hwi := HBi.out.size
     have q0 : (0 : Int) ≤ (q : Int) := Int.natCast_nonneg _
     by_cases hlt2 : q < W.length + 1
     ·have hdq : decide ((q : Int) ≤ (W.length : Int)) = true := decide_eq_true (by omega)
      have hdq2 : decide (q ≤ W.length) = true := decide_eq_true (by omega)
      have hsg := HSG.out
      rw [show W.length + 1 - q = (W.length - q) + 1 by omega] at hsg
      obtain ⟨⟨xs, z, rfl, hspz⟩, hpp, hgc⟩ := hsg
      rw [path_in] at hpp
      obtain ⟨hcz, hxl⟩ := counts_kids_le hgc
      obtain ⟨ga', gc', e', hvc, hvm, hx⟩ := nods_shapeS HG.out
      cases e'
      obtain ⟨gb, go, za, zc, zk, zkc, h', rfl, rfl, hSb, hA⟩ := hx xs.length z (by simp)
      obtain ⟨hbz, _, _, _, k3, _, hzk⟩ := hA
      have HZK := Lib.hid hzk
      have hwl : IntKind.i64.wrap ((xs.length : Int) + 1 - 1) = (xs.length : Int) := by rw [IntKind.wrap_i64]; omega
      have x0 : (0 : Int) ≤ (xs.length : Int) := Int.natCast_nonneg _
      have x1 : (xs.length : Int) < (xs.length : Int) + 1 := by omega
      have hrl : p.length + [(xs.length : Int)].length ≤ 100000000 := by simp; omega
      have hsl : (xs ++ [z]).length = xs.length + 1 := by simp
      have hgb : gb < w6.heap.size := hSb.2
      obtain rfl : rn = p.length := (SliceR.len HI.out).1
      have HFIN : Hid (Spine (W.length + 1 - (q + 1)) z.kids ∧ (p ++ [(xs.length : Int)]) ++ lastPath (W.length + 1 - (q + 1)) 0 z.kids = P ∧ Nod.counts z.kids ≤ 1000000) := Lib.hid (by
       rw [show W.length + 1 - (q + 1) = W.length - q by omega]
       exact ⟨hspz, by rw [← hpp, List.append_assoc]; rfl, hcz⟩)
      clear hzk hx hpp hspz
      go_wp2_with (at_builtin; go_must (refine wpList_append_R _ rfl _ _ 27 27 rfl rowInt eltInt w6.heap.size (.slice ra p.length rc) _ (xs := p) (ys := [(xs.length : Int)]) (news := [.int .i64 xs.length]) rfl rfl (HI.out.stable (rdOf_stable _) (.all ((Below.refl _ _).alloc (Nat.le_refl _) _)) (fun _ h _ => h)) (by simp; omega) (src_tag _ _ 1 (by simp)) (NewsR.one rfl rfl) hrl ?_); intro v8 w8 hR8 hB8 _ _; obtain ⟨qa, qn, qc, hne⟩ := slice_any' hR8; subst hne; have HR8 := Lib.hid hR8; have hx8 := Lib.hid (((Below.refl w6.heap.size _).alloc hwi _).trans hB8); have k3' := (World.cell?_of_block (a := ⟨gb, go + xs.length * 4 + 3, none⟩) (hx8.out.block gb hgb)).trans k3; clear hR8 hB8)
      go_roundw
      case rel => exact ⟨q + 1, h', z.kids, zk, _, zkc, qa, qn, qc, p ++ [(xs.length : Int)], hlt2, by go_num, rfl, rfl, by simp; omega, Lib.hid (HZK.out.stable (rdNod_stable _ _) (Keeps.of_below hx8.out (fun b hb _ => hb.2)) (fun _ h _ => h)), HR8, HFIN, Lib.hid (HBi.out.trans hx8.out)⟩
      case measure => simp [intOf]; omega
     ·obtain rfl : q = W.length + 1 := by omega
      have hdq : decide (((W.length + 1 : Nat) : Int) ≤ (W.length : Int)) = false := decide_eq_false (by omega)
      have hdq2 : decide ((W.length : Int) + 1 ≤ (W.length : Int)) = false := decide_eq_false (by omega)
      have hsg := HSG.out
      rw [Nat.sub_self] at hsg
      obtain rfl : p = P := by
       have := hsg.2.1
       rw [lastPath, List.append_nil] at this
       exact this
      obtain rfl : rn = p.length := (SliceR.len HI.out).1
      clear hsg hpq
      go_wp2_with (at_builtin; go_must (refine wpList_append_X _ rfl _ _ 56 56 rfl rowPth eltPth W1.heap.size (.slice pa k pc) _ (xs := hostPs d k) (ys := [p]) (news := [.slice ra p.length rc]) rfl rfl (HPS0.out _ (below1R (below_from hr6 HBi.out) _)) (below1R (below_from hx6 HBi.out) _).size (src_pth (heap_new _ _ rfl) 1) (news_apart rdPth_stable (HPS0.out _ hr6) hx6.size (NewsR.one rfl ⟨_, rfl, HI.out.below (rdOf_stable _) ((Below.refl _ _).alloc (Nat.le_refl _) _)⟩)) hpl ?_); intro v8 w8 hR8 hB8 hG8 _; rw [← HPS.out] at hR8; obtain ⟨ua, un, uc, hve⟩ := slice_anyX hR8; subst hve; have HR8 := Lib.hid hR8; have HG8 := Lib.hid hG8; have HB8 := Lib.hid hB8; clear hR8 hB8 hG8)
      go_roundw
      case rel => exact ⟨k + 1, va, _, vc, ua, un, uc, hlt, by go_num, rfl, rfl, Lib.hid (by rw [HGG.out]; exact keep_nodsP ((HG6.out.below (rdNod_stable _ _) HBi.out).below (rdNod_stable _ _) ((Below.refl _ _).alloc (Nat.le_refl _) _)) HG8.out (fun d hd => by obtain ⟨cs, hcs⟩ := HPB.out d hd; exact ⟨cs, heap_old _ _ (heap_below (below_from hr6 HBi.out) hcs)⟩)), HR8, Lib.hid (Below.trans (below1R (below_from hx6 HBi.out) _) HB8.out), Lib.hid (pthB_of (HPS.out ▸ HR8.out)), Lib.hid (by rw [HGG.out]; exact HCS2.out)⟩
      case measure => simp [intOf]; omega
  ·obtain rfl : k = d.length := by omega
   rw [List.take_length] at HN
   obtain rfl : nn = (hostN d).kids.length := (SliceR.len HN.out).1
   have hR := Lib.hid (heap_below HBr.out HR1.out)
   obtain ⟨q1, g1⟩ := blk hR.out
   go_wp2_with fail
   refine bodyPost_ret (results_nt rfl _ _ w.heap.size (.int .i64 1) (.slice none 0 0) (.string ⟨#[]⟩) (.slice na (hostN d).kids.length nc) rfl (by simp [heap_set, putIn, hR.out])) rfl ?_
   have hsz : w.heap.size ≤ W1.heap.size := by omega
   refine ⟨na, nc, pa, pc, rfl, HN.out.stable (rdNod_stable _ _) (((((Keeps.refl _ _).set (by simp; omega) _).set (by simp; omega) _).set (by simp; omega) _).set (by simp; omega) _) (fun b h _ => by omega), RwX.base rdPth_stable (HPt.out.below rdPth_stable (((((Keeps.refl _ _).set (by simp; omega) _).set (by simp; omega) _).set (by simp; omega) _).set (by simp; omega) _)) hsz, ?_⟩
   exact ((((HB.out.trans (HBr.out.mono hsz)).setCell (Nat.le_refl _) _).setCell (Nat.le_refl _) _).setCell (Nat.le_refl _) _).setCell (Nat.le_refl _) _
end Go.Proofs.YteognfhemmogpaaGreatDoor
namespace Go.Proofs.Qw
open Go.RowKit
theorem behind_pre : ∀ (n : Nat) (p r : List Int) (l : List Nod), behindP n 0 (p ++ r) l = (p ++ (behindP n 0 r l).1, (behindP n 0 r l).2)
 | 0, p, r, l => by
  rw [behindP, behindP]
  split
  ·rfl
  ·simp
 | n + 1, p, r, l => by
  rw [behindP, behindP, List.append_assoc, behind_pre n p]
theorem behind_len : ∀ (n j : Nat) (p : List Int) (l : List Nod), (behindP n j p l).1.length ≤ p.length + n + 1
 | 0, j, p, l => by
  rw [behindP]
  split
  ·show p.length ≤ _
   omega
  ·show (p ++ [_]).length ≤ _
   simp
 | n + 1, j, p, l => by
  rw [behindP]
  have := behind_len n 0 (p ++ [((j + l.length : Nat) : Int) - 1]) (l.getLastD default).kids
  rw [List.length_append, List.length_singleton] at this
  omega
theorem point_path {d : List Lin} {q : Ps} {l : Lin} (hl : d[q.line.toNat]? = some l) : refPoint d q = if q.col = 0 then (lastPath ((wayL l).length + 1) 0 (hostL (lineN (gr rowK)) 13 0 (d.take (q.line.toNat + 1))), 0) else ((lastPath ((wayL l).length + 1) 0 (hostL (lineN (gr rowK)) 13 0 (d.take (q.line.toNat + 1)))) ++ (behindP (wrapsOf rowK (l.cells.getD (q.col - 1).toNat default)).length 0 [] (gr rowK (l.cells.take q.col.toNat))).1, (behindP (wrapsOf rowK (l.cells.getD (q.col - 1).toNat default)).length 0 [] (gr rowK (l.cells.take q.col.toNat))).2) := by
 unfold refPoint
 have e : d.getD q.line.toNat default = l := by rw [List.getD_eq_getElem?_getD, hl]; rfl
 simp only [e]
 split
 ·rfl
 ·have := behind_pre (wrapsOf rowK (l.cells.getD (q.col - 1).toNat default)).length (lastPath ((wayL l).length + 1) 0 (hostL (lineN (gr rowK)) 13 0 (d.take (q.line.toNat + 1)))) [] (gr rowK (l.cells.take q.col.toNat))
  rw [List.append_nil] at this
  exact this
theorem pts_at {l : List Cel} {i : Nat} (hi : i < l.length) : (rowPts l l.length)[i]? = some (behindP (wrapsOf rowK (l.getD i default)).length 0 [] (gr rowK (l.take (i + 1)))) := by
 unfold rowPts
 rw [List.getElem?_map, List.getElem?_range hi]
 rfl
theorem ps_at {d : List Lin} {i : Nat} {l : Lin} (hl : d[i]? = some l) : (hostPs d d.length)[i]? = some (lastPath ((wayL l).length + 1) 0 (hostL (lineN (gr rowK)) 13 0 (d.take (i + 1)))) := by
 have hi := (List.getElem?_eq_some_iff.1 hl).1
 unfold hostPs
 rw [List.getElem?_map, List.getElem?_range hi]
 simp only [Option.map_some]
 rw [List.getD_eq_getElem?_getD, hl]
 rfl
end Go.Proofs.Qw
namespace Go.Proofs.YteognfhemmogpaaGreatDoor
open Go.RowKit
open Go.Proofs.Qw
attribute [local go_sem ↓] Go.wp_at_zero Go.wp_at_succ
theorem step_app_ints {w : World} {ops : Array Oper} {o : Oper} {a : Act} {K : Act → World → Prop} {Q : Exit → Act → World → Prop} {E : Prop} (hgd : o.guard = none) (s x : Operand)
  (ho : o.op = .call { callee := .builtin .append, args := #[s, x], argTypes := #[27, 27] }) (n : Nat) (v y : Value) {xs ys : List Int} {own : Bool} {S : Nat → Prop} (hs : a.eval s = v) (hx : a.eval x = y)
  (h1 : IntsR true w (fun b => n ≤ b) v xs) (hn : n ≤ w.heap.size) (hy : IntsR own w S y ys) (hlen : xs.length + ys.length ≤ 100000000)
  (H : ∀ v' w', IntsR true w' (fun b => n ≤ b) v' (xs ++ ys) → Below n w w' → K (a.put o.dst v') w') :
  if Region.wanted o (yielded ops a.tmps) = true then Oper.wp Tryz.prog o a w K Q else E :=
 step_append_R hgd s x _ _ ho rowInt eltInt n v y hs hx h1 hn (SliceR.src_flat rowInt eltInt hy) (flatInt _ _ ys) hlen fun v' w' r1 r2 _ _ => H v' w' r1 r2
theorem pth_at {w : World} {n m pc i : Nat} {pa : Option Addr} {xs : List (List Int)} {p : List Int} (h : RwX 27 1 rdPth w n (.slice pa m pc) xs) (hp : xs[i]? = some p) : ∃ b o ra rc, pa = some ⟨b, o, none⟩ ∧ n ≤ b ∧ b < w.heap.size ∧ m ≤ pc ∧ pc ≤ maxLen ∧ w.cell? ⟨b, o + i, none⟩ = some (.slice ra p.length rc) ∧ IntsR true w (fun d => n ≤ d) (.slice ra p.length rc) p := by
 obtain ⟨a, c, e, h2, h3, ⟨h0, _⟩ | ⟨b, o, rfl, hb, hz, _, he⟩⟩ := h
 ·rw [h0] at hp
  cases hp
 ·cases e
  obtain ⟨vs, g1, ⟨v, rfl, g2⟩, g3⟩ := he i p hp
  obtain ⟨ra, rc, rfl⟩ := g2.slice
  have k := g3 0 _ rfl
  rw [Nat.mul_one, Nat.add_zero] at k
  exact ⟨b, o, ra, rc, rfl, hb, hz, h2, h3, k, g2.stable (rdOf_stable _) (Keeps.refl _ _) (fun _ h _ => h.1)⟩
theorem pt_at {w : World} {n m pc i : Nat} {pa : Option Addr} {xs : List (List Int × Int)} {p : List Int × Int} (h : RwX 45 2 rdPt w n (.slice pa m pc) xs) (hp : xs[i]? = some p) : ∃ b o ra rc, pa = some ⟨b, o, none⟩ ∧ b < w.heap.size ∧ m ≤ pc ∧ pc ≤ maxLen ∧ w.cell? ⟨b, o + i * 2, none⟩ = some (.slice ra p.1.length rc) ∧ w.cell? ⟨b, o + i * 2 + 1, none⟩ = some (.int .i64 p.2) ∧ IntsR true w (fun d => n ≤ d) (.slice ra p.1.length rc) p.1 := by
 obtain ⟨a, c, e, h2, h3, ⟨h0, _⟩ | ⟨b, o, rfl, hb, hz, _, he⟩⟩ := h
 ·rw [h0] at hp
  cases hp
 ·cases e
  obtain ⟨vs, g1, ⟨v, rfl, g2⟩, g3⟩ := he i p hp
  obtain ⟨ra, rc, rfl⟩ := g2.slice
  exact ⟨b, o, ra, rc, rfl, hz, h2, h3, g3 0 _ rfl, g3 1 _ rfl, g2.stable (rdOf_stable _) (Keeps.refl _ _) (fun _ h _ => h.1)⟩
set_option maxRecDepth 100000 in
set_option maxHeartbeats 4000000 in
theorem refPoint_yes (v : Value) (d : List Lin) (q : Ps) (w : World) (S : Nat → Prop) (hv : LinsR w S v d) (hm : mayD d = true) (hi : isD d q = true) :
  Calls Tryz.prog 18 #[v, .agg #[.int .i64 q.line, .int .i64 q.col]] w fun e w' => ∃ qa qc, e = .returned (.tuple #[.agg #[.slice qa (refPoint d q).1.length qc, .int .i64 (refPoint d q).2], .int .i64 0]) ∧ IntsR false w' (fun _ => True) (.slice qa (refPoint d q).1.length qc) (refPoint d q).1 ∧ Below w.heap.size w w' := by
 have hml := may_iffH hm
 obtain ⟨i1, i2, i3, l, hl, i4⟩ := isD_parts hi
 have hcl : l.cells.length ≤ 4000 := Nat.le_trans (cells_le hl) hml.2
 have HM : Hid (∀ X, Below w.heap.size w X → Calls Tryz.prog 19 #[v] X fun e X' => e = .returned (.bool true) ∧ Below X.heap.size X X') := Lib.hid fun X hX => hm ▸ refMay_any v d X S (hv.below (rdLin_stable _) hX) (may_smallH hm)
 have HI : Hid (∀ X, Below w.heap.size w X → Calls Tryz.prog 33 #[v, .agg #[.int .i64 q.line, .int .i64 q.col]] X fun e X' => e = .returned (.bool true) ∧ Below X.heap.size X X') := Lib.hid fun X hX => hi ▸ refIs_any v d q X S (hv.below (rdLin_stable _) hX)
 have HH : Hid (∀ X, Below w.heap.size w X → Calls Tryz.prog 26 #[v] X fun e X' => ∃ na nc pa pc, e = .returned (.tuple #[.agg #[.int .i64 1, .slice none 0 0, .string ⟨#[]⟩, .slice na (hostN d).kids.length nc], .slice pa d.length pc]) ∧ RwX 27 1 rdPth X' X.heap.size (.slice pa d.length pc) (hostPs d d.length) ∧ Below X.heap.size X X') := Lib.hid fun X hX => (refHosts_any v d X S (hv.below (rdLin_stable _) hX) (ok_of_may hm).2 (by omega) (by omega)).mono fun _ _ ⟨na, nc, pa, pc, h1, _, h3, h4⟩ => ⟨na, nc, pa, pc, h1, h3, h4⟩
 have HPP := Lib.hid (point_path hl)
 obtain ⟨P, hP⟩ : ∃ P, lastPath ((wayL l).length + 1) 0 (hostL (lineN (gr rowK)) 13 0 (d.take (q.line.toNat + 1))) = P := ⟨_, rfl⟩
 have HAtP := Lib.hid (ps_at hl)
 rw [hP] at HPP HAtP
 have hPl : P.length ≤ 13 := by
  rw [← hP, lastPath_len]
  have hok := (ok_of_may hm).2 l (List.mem_of_getElem? hl)
  have := way_len hok
  obtain ⟨a1, a2, a3, _⟩ := hok
  omega
 obtain ⟨a, ac, rfl, hac, ham, hx⟩ := lins_shape hv
 obtain ⟨b, o, la, lc, ca, cc, rfl, hA⟩ := hx q.line.toNat l hl
 have HAT : Hid (∀ X, Below w.heap.size w X → LinAt X S b (o + q.line.toNat * 4) l la lc ca cc) := Lib.hid fun X hX => hA.below hX
 obtain ⟨W1, hW1, hB, hz, hB1, hB2⟩ := pos_point w (.int .i64 q.line) (.int .i64 q.col) (.slice none 0 0) (.int .i64 0)
 have HZ := Lib.hid hz
 have H1 := Lib.hid hB1
 have H2 := Lib.hid hB2
 have HB := Lib.hid hB
 obtain ⟨N, hN⟩ : ∃ N, (hostN d).kids.length = N := ⟨_, rfl⟩
 rw [hN] at HH
 have z1 : w.heap.size + 1 < W1.heap.size := hz
 have j1 : (q.line : Int) < (d.length : Int) := i2
 unfold maxLen at ham
 have hlz : b < w.heap.size := hA.lt
 by_cases hc0 : q.col = 0
 ·have hcb : (q.col == 0) = true := by simp [hc0]
  have HPE : Hid (refPoint d q = (P, 0)) := Lib.hid (HPP.out.trans (if_pos hc0))
  rw [HPE.out]
  clear hc0 HPP hv hm hi hx hA hl hP hN i4 i3 hB hB1 hB2 hz
  go_enter Tryz.func18, Tryz.ntmps18
  go_wp2_with (first
   | (go_at_call 19; refine (HM.out _ HB.out).mono ?_; rintro e w2 ⟨rfl, hb2⟩; have hx2 := below_from HB.out hb2; have hv2 : Below W1.heap.size W1 w2 := hb2; obtain ⟨q1, g1⟩ := blk (heap_below hv2 H1.out); obtain ⟨q2, g2⟩ := blk (heap_below hv2 H2.out)) | (go_at_call 33; refine (HI.out _ hx2).mono ?_; rintro e w3 ⟨rfl, hb3⟩; have hx3 := below_from hx2 hb3; have hv3 : Below W1.heap.size W1 w3 := below_from hv2 hb3) | (go_at_call 26; refine (HH.out _ hx3).mono ?_; rintro e w4 ⟨na, nc, pa, pc, rfl, hp4, hb4⟩; obtain ⟨pb, po, ra, rc, rfl, hpn, hpz, hpm, hpm2, k4, hi4⟩ := pth_at hp4 HAtP.out; have hpn2 : W1.heap.size ≤ pb := Nat.le_trans hv3.size hpn; unfold maxLen at hpm2; have HI4 := Lib.hid hi4; have hx4 := below_from hx3 hb4; have hv4 : Below W1.heap.size W1 w4 := below_from hv3 hb4; have hP4 := Lib.hid (heap_below hv4 H1.out); have hR4 := Lib.hid (heap_below hv4 H2.out); obtain ⟨q3, g3⟩ := blk hP4.out; obtain ⟨q4, g4⟩ := blk hR4.out; obtain ⟨_, _, _, _, y3, _, _⟩ := HAT.out _ hx4; have yz : b < w4.heap.size := Nat.lt_of_lt_of_le hlz hx4.size; have z4 : w.heap.size + 1 < w4.heap.size := Nat.lt_of_lt_of_le z1 hv4.size; have z40 : w.heap.size < w4.heap.size := Nat.lt_of_succ_lt z4; have ne4 : ¬ w.heap.size + 1 = w4.heap.size := Nat.ne_of_lt z4; clear hp4 hi4 hb4))
  refine bodyPost_ret (results_pt rfl _ _ (w.heap.size + 1) (.slice ra P.length rc) (.int .i64 0) rfl (heap_old _ _ (by simp [heap_set, putIn, hR4.out]))) rfl ?_
  have h13 : W1.heap.size ≤ w3.heap.size := hv3.size
  exact ⟨ra, rc, rfl, ((HI4.out.read fun _ _ h => h).stable (rdOf_stable _) ((((Keeps.refl _ _).set (by show ¬ (w3.heap.size ≤ w.heap.size + 1); omega) _).set (by show ¬ (w3.heap.size ≤ w.heap.size + 1); omega) _).alloc _) (fun _ _ _ => trivial)), ((hx4.setCell (Nat.le_succ _) _).setCell (Nat.le_succ _) _).alloc (by have := hx4.size; simpa using this) _⟩
 ·have hcb : (q.col == 0) = false := by simp [hc0]
  obtain ⟨RP, hRP⟩ : ∃ RP, behindP (wrapsOf rowK (l.cells.getD (q.col - 1).toNat default)).length 0 [] (gr rowK (l.cells.take q.col.toNat)) = RP := ⟨_, rfl⟩
  have HPE : Hid (refPoint d q = (P ++ RP.1, RP.2)) := Lib.hid (by rw [HPP.out, if_neg hc0, hRP])
  obtain ⟨ci, hci⟩ : ∃ ci : Nat, (q.col - 1).toNat = ci := ⟨_, rfl⟩
  have HPA : Hid ((rowPts l.cells l.cells.length)[ci]? = some RP) := Lib.hid (by
   rw [← hci]
   have := pts_at (l := l.cells) (i := (q.col - 1).toNat) (by omega)
   rw [show (q.col - 1).toNat + 1 = q.col.toNat by omega, hRP] at this
   exact this)
  have HRw : Hid (∀ X, Below w.heap.size w X → Calls Tryz.prog 34 #[.slice ca l.cells.length cc] X fun e X' => ∃ na nc pa pc, e = .returned (.tuple #[.slice na (gr rowK l.cells).length nc, .slice pa l.cells.length pc]) ∧ RwX 45 2 rdPt X' X.heap.size (.slice pa l.cells.length pc) (rowPts l.cells l.cells.length) ∧ Below X.heap.size X X') := Lib.hid fun X hX => (refRow_any _ l.cells X S ((HAT.out X hX).cellsR) (by omega)).mono fun _ _ ⟨na, nc, pa, pc, h1, _, h3, h4⟩ => ⟨na, nc, pa, pc, h1, h3, h4⟩
  have hRl : RP.1.length ≤ 100000 := by
   rw [← hRP]
   have h1 := behind_len (wrapsOf rowK (l.cells.getD (q.col - 1).toNat default)).length 0 [] (gr rowK (l.cells.take q.col.toNat))
   have h2 := rowK_len (l.cells.getD (q.col - 1).toNat default)
   simp only [List.length_nil] at h1
   omega
  rw [HPE.out]
  have hwc : IntKind.i64.wrap (q.col - 1) = (ci : Int) := by rw [IntKind.wrap_i64]; omega
  have c0 : (0 : Int) ≤ (ci : Int) := Int.natCast_nonneg _
  have c1 : (ci : Int) < (l.cells.length : Int) := by omega
  generalize (gr rowK l.cells).length = gl at *
  clear hRP HPP hv hm hi hx hA hl hP hN i4 hB hB1 hB2 hz hc0 i3 hci
  go_enter Tryz.func18, Tryz.ntmps18
  go_upto_region 8 with (first
   | (go_at_call 19; refine (HM.out _ HB.out).mono ?_; rintro e w2 ⟨rfl, hb2⟩; have hx2 := below_from HB.out hb2; have hv2 : Below W1.heap.size W1 w2 := hb2; obtain ⟨q1, g1⟩ := blk (heap_below hv2 H1.out); obtain ⟨q2, g2⟩ := blk (heap_below hv2 H2.out)) | (go_at_call 33; refine (HI.out _ hx2).mono ?_; rintro e w3 ⟨rfl, hb3⟩; have hx3 := below_from hx2 hb3; have hv3 : Below W1.heap.size W1 w3 := below_from hv2 hb3) | (go_at_call 26; refine (HH.out _ hx3).mono ?_; rintro e w4 ⟨na, nc, pa, pc, rfl, hp4, hb4⟩; obtain ⟨pb, po, ra, rc, rfl, hpn, hpz, hpm, hpm2, k4, hi4⟩ := pth_at hp4 HAtP.out; have hpn2 : W1.heap.size ≤ pb := Nat.le_trans hv3.size hpn; unfold maxLen at hpm2; have HI4 := Lib.hid hi4; have hx4 := below_from hx3 hb4; have hv4 : Below W1.heap.size W1 w4 := below_from hv3 hb4; have hP4 := Lib.hid (heap_below hv4 H1.out); have hR4 := Lib.hid (heap_below hv4 H2.out); obtain ⟨q3, g3⟩ := blk hP4.out; obtain ⟨q4, g4⟩ := blk hR4.out; obtain ⟨_, _, _, _, y3, _, _⟩ := HAT.out _ hx4; have yz : b < w4.heap.size := Nat.lt_of_lt_of_le hlz hx4.size; have z4 : w.heap.size + 1 < w4.heap.size := Nat.lt_of_lt_of_le z1 hv4.size; have z40 : w.heap.size < w4.heap.size := Nat.lt_of_succ_lt z4; have ne4 : ¬ w.heap.size + 1 = w4.heap.size := Nat.ne_of_lt z4; clear hp4 hi4 hb4)
   | (go_at_call 34; (with_reducible refine (HRw.out _ (hx4.alloc hx4.size _)).mono ?_); rintro e w5 ⟨ka, kc, ta, tc, rfl, ht5, hb5⟩; obtain ⟨tb, tof, ua, uc, rfl, htz, htm, htm2, u0, u1, hu5⟩ := pt_at ht5 HPA.out; unfold maxLen at htm2; have HU5 := Lib.hid hu5; have h45 := Lib.hid (below_from ((Below.refl w4.heap.size w4).alloc (Nat.le_refl _) _) hb5); have hx5 : Below w.heap.size w w5 := below_from hx4 h45.out; have hP5 := Lib.hid (heap_below h45.out hP4.out); have hR5 := Lib.hid (heap_below h45.out hR4.out); obtain ⟨q5, g5⟩ := blk hP5.out; obtain ⟨q6, g6⟩ := blk hR5.out; have k5 := (h45.out.cell (p := ⟨pb, po + q.line.toNat, none⟩) hpz).trans k4; have z45 : w4.heap.size < w5.heap.size := alloc_le hb5.size; have hpz5 : pb < w5.heap.size := Nat.lt_trans hpz z45; have z5 : w.heap.size + 1 < w5.heap.size := Nat.lt_trans z4 z45; have z50 : w.heap.size < w5.heap.size := Nat.lt_of_succ_lt z5; clear ht5 hu5 hb5))
  obtain ⟨W6, hW6⟩ : ∃ W6, w5.alloc (.cells #[.slice ua RP.1.length uc, .int .i64 RP.2] 45) = W6 := ⟨_, rfl⟩
  rw [hW6]
  have h56 : Below w5.heap.size w5 W6 := hW6 ▸ (Below.refl _ _).alloc (Nat.le_refl _) _
  have hQ6 : W6.heap[w5.heap.size]? = some (.cells #[.slice ua RP.1.length uc, .int .i64 RP.2] 45) := hW6 ▸ heap_new _ _ rfl
  have HP6 := Lib.hid (heap_below h56 hP5.out)
  have HR6 := Lib.hid (heap_below h56 hR5.out)
  have HQ6 := Lib.hid hQ6
  have k6 := (h56.cell (p := ⟨pb, po + q.line.toNat, none⟩) hpz5).trans k5
  have HK6 := Lib.hid k6
  have HIp : Hid (∀ X, Below W6.heap.size W6 X → IntsR true X (fun d => w3.heap.size ≤ d) (.slice ra P.length rc) P) := Lib.hid fun X hX => HI4.out.stable (rdOf_stable _) ((Keeps.all h45.out).trans ((Keeps.all h56).trans (Keeps.all hX))) (fun _ h _ => h)
  have HIq : Hid (∀ X, Below W6.heap.size W6 X → IntsR true X (fun _ => True) (.slice ua RP.1.length uc) RP.1) := Lib.hid fun X hX => HU5.out.stable (rdOf_stable _) ((Keeps.all h56).trans (Keeps.all hX)) (fun _ _ _ => trivial)
  have hx6 : Below w.heap.size w W6 := below_from hx5 h56
  have hpz6 : pb < W6.heap.size := Nat.lt_of_lt_of_le hpz5 h56.size
  have z6 : w.heap.size + 1 < W6.heap.size := Nat.lt_of_lt_of_le z5 h56.size
  have z60 : w.heap.size < W6.heap.size := Nat.lt_of_succ_lt z6
  have HX6 := Lib.hid hx6
  obtain ⟨s1, t1⟩ := blk HP6.out
  obtain ⟨s2, t2⟩ := blk HR6.out
  obtain ⟨s3, t3⟩ := blk hQ6
  have hz56 : w5.heap.size < W6.heap.size := (Array.getElem?_eq_some_iff.1 hQ6).1
  have neP : ¬ pb = w.heap.size + 1 := by omega
  have neP2 : ¬ w.heap.size + 1 = pb := by omega
  have neQ : ¬ w5.heap.size = w.heap.size + 1 := by omega
  have neQ2 : ¬ w.heap.size + 1 = w5.heap.size := by omega
  clear hW6 h56 hQ6 hx6 q5 g5 q6 g6 q3 g3 q4 g4 u0 u1 k4 k5 q1 g1 q2 g2
  go_region_held3 (fun X => X.cell? ⟨pb, po + q.line.toNat, none⟩ = some (.slice ra P.length rc) ∧ X.cell? ⟨w.heap.size, 0, none⟩ = some (.int .i64 q.line) ∧ X.cell? ⟨w5.heap.size, 0, none⟩ = some (.slice ua RP.1.length uc) ∧ X.cell? ⟨w5.heap.size, 1, none⟩ = some (.int .i64 RP.2)) ((first | go_keep | skip))
   (first
    | (refine step_app_ints (by rfl) _ _ (by rfl) W6.heap.size (.slice (some ⟨W6.heap.size, 0, none⟩) 0 0) (.slice ra P.length rc) (xs := []) (by rfl) (by rfl) (SliceR.empty _ _ _ _ _ _ _) (by simp) (HIp.out _ (by go_grown)) (by simp; omega) ?_; intro v7 w7 hR7 hB7; rw [List.nil_append] at hR7; obtain ⟨oa, oc, hve⟩ := hR7.slice; subst hve; have HR7 := Lib.hid hR7; have hx7 : Below W6.heap.size W6 w7 := Below.trans (by go_grown) hB7; have hz7 := hx7.size; obtain ⟨n1, n2⟩ := blk (heap_below hx7 HP6.out); obtain ⟨n3, n4⟩ := blk (heap_below hx7 HQ6.out); have n5 := (hx7.cell (p := ⟨pb, po + q.line.toNat, none⟩) hpz6).trans HK6.out; clear hR7 hB7)
    | (refine step_app_ints (by rfl) _ _ (by rfl) W6.heap.size (.slice oa P.length oc) (.slice ua RP.1.length uc) (xs := P) (by rfl) (by rfl) HR7.out hz7 (HIq.out _ hx7) (by omega) ?_; intro v8 w8 hR8 hB8; obtain ⟨ra8, rc8, hve⟩ := hR8.slice; subst hve; have HR8 := Lib.hid hR8; have hx8 : Below W6.heap.size W6 w8 := hx7.trans hB8; have HX8 := Lib.hid hx8; have hR9 := Lib.hid (heap_below hx8 HR6.out); obtain ⟨m1, m2⟩ := blk (heap_below hx8 HP6.out); obtain ⟨m3, m4⟩ := blk (heap_below hx8 HQ6.out); obtain ⟨m6, m7⟩ := blk hR9.out; have m5 := (hx8.cell (p := ⟨pb, po + q.line.toNat, none⟩) hpz6).trans HK6.out; clear hR8 hB8))
  all_goals
   go_wp2_with fail
   refine bodyPost_ret (results_pt rfl _ _ (w.heap.size + 1) (.slice ra8 (P ++ RP.1).length rc8) (.int .i64 RP.2) rfl (by simp [heap_set, putIn, hR9.out])) rfl ?_
   refine ⟨ra8, rc8, rfl, ((HR8.out.read fun _ _ h => h).stable (rdOf_stable _) (((Keeps.refl _ _).set (by show ¬ (W6.heap.size ≤ w.heap.size + 1); omega) _).set (by show ¬ (W6.heap.size ≤ w.heap.size + 1); omega) _) (fun _ _ _ => trivial)), ?_⟩
   exact ((below_from HX6.out HX8.out).setCell (Nat.le_succ _) _).setCell (Nat.le_succ _) _
set_option maxRecDepth 100000 in
set_option maxHeartbeats 4000000 in
theorem refPoint_no (v : Value) (d : List Lin) (q : Ps) (w : World) (S : Nat → Prop) (hv : LinsR w S v d) (hs : Small d) (hm : mayD d = false ∨ isD d q = false) :
  Calls Tryz.prog 18 #[v, .agg #[.int .i64 q.line, .int .i64 q.col]] w fun e w' => e = .returned (.tuple #[.agg #[.slice none 0 0, .int .i64 0], .int .i64 1]) ∧ Below w.heap.size w w' := by
 have HM : Hid (∀ X, Below w.heap.size w X → Calls Tryz.prog 19 #[v] X fun e X' => e = .returned (.bool (mayD d)) ∧ Below X.heap.size X X') := Lib.hid fun X hX => refMay_any v d X S (hv.below (rdLin_stable _) hX) hs
 have HI : Hid (∀ X, Below w.heap.size w X → Calls Tryz.prog 33 #[v, .agg #[.int .i64 q.line, .int .i64 q.col]] X fun e X' => e = .returned (.bool (isD d q)) ∧ Below X.heap.size X X') := Lib.hid fun X hX => refIs_any v d q X S (hv.below (rdLin_stable _) hX)
 obtain ⟨va, vc, rfl⟩ := hv.slice
 obtain ⟨W1, hW1, hB, hz, hB1, hB2⟩ := pos_point w (.int .i64 q.line) (.int .i64 q.col) (.slice none 0 0) (.int .i64 0)
 have H1 := Lib.hid hB1
 have H2 := Lib.hid hB2
 have HB := Lib.hid hB
 obtain ⟨m, hmd⟩ : ∃ m, mayD d = m := ⟨_, rfl⟩
 obtain ⟨j, hjd⟩ : ∃ j, isD d q = j := ⟨_, rfl⟩
 rw [hmd] at HM hm
 rw [hjd] at HI hm
 clear hv hs hB hB1 hB2 hz hmd hjd
 cases m
 ·clear hm HI
  go_enter Tryz.func18, Tryz.ntmps18
  go_wp2_with (go_at_call 19; refine (HM.out _ HB.out).mono ?_; rintro e w2 ⟨rfl, hb2⟩; have hx2 := below_from HB.out hb2; have hR2 := Lib.hid (heap_below hb2 H2.out); obtain ⟨q1, g1⟩ := blk hR2.out)
  refine bodyPost_ret (results_pt rfl _ _ (w.heap.size + 1) (.slice none 0 0) (.int .i64 0) rfl (by simp [heap_set, putIn, hR2.out])) rfl ?_
  exact ⟨rfl, (hx2.setCell (Nat.le_succ _) _).setCell (Nat.le_succ _) _⟩
 ·obtain rfl : j = false := by
   rcases hm with e | e
   ·cases e
   ·exact e
  clear hm
  go_enter Tryz.func18, Tryz.ntmps18
  go_wp2_with (first
   | (go_at_call 19; refine (HM.out _ HB.out).mono ?_; rintro e w2 ⟨rfl, hb2⟩; have hx2 := below_from HB.out hb2; obtain ⟨q1, g1⟩ := blk (heap_below hb2 H1.out))
   | (go_at_call 33; refine (HI.out _ hx2).mono ?_; rintro e w3 ⟨rfl, hb3⟩; have hx3 := below_from hx2 hb3; have hR3 := Lib.hid (heap_below (below_from hb2 hb3) H2.out); obtain ⟨q2, g2⟩ := blk hR3.out))
  refine bodyPost_ret (results_pt rfl _ _ (w.heap.size + 1) (.slice none 0 0) (.int .i64 0) rfl (by simp [heap_set, putIn, hR3.out])) rfl ?_
  exact ⟨rfl, (hx3.setCell (Nat.le_succ _) _).setCell (Nat.le_succ _) _⟩
end Go.Proofs.YteognfhemmogpaaGreatDoor
namespace Go.Proofs.Qw
open Go.RowKit
def exD : List Lin := [⟨0, [], 0, []⟩, ⟨0, [], 0, [⟨97, 0, []⟩, ⟨98, 1, []⟩, ⟨99, 3, []⟩, ⟨10, 1, []⟩]⟩]
def exL : List Lin := [⟨0, [0], 0, []⟩, ⟨0, [0, 1], 0, []⟩]
theorem exD_host : hostN exD = .mk 1 [] [] [.mk 2 [] [] [], .mk 2 [] [] [txtN [97], .mk 11 [] [] [txtN [98], .mk 12 [] [] [txtN [99]], brN]]] := by decide +kernel
theorem exL_host : hostN exL = .mk 1 [] [] [.mk 7 [] [] [.mk 9 [] [] [], .mk 8 [] [] [.mk 9 [] [] []]]] := by decide +kernel
theorem exD_point : pointN exD ⟨1, 4⟩ = ([1, 1], 3) := by decide +kernel
theorem exD_may : mayD exD = true ∧ mayD exL = true := by decide +kernel
end Go.Proofs.Qw
namespace Go.Proofs.Qw
open Go.RowKit Go.Proofs.YteognfhemmogpaaGreatDoor
theorem slice_blkR {α : Type} {t : TypeId} {k : Nat} {enc : α → List Value} (hk : ∀ x, (enc x).length = k) {w : World} {S : Nat → Prop} {b : Nat} (xs : List α) (h : w.heap[b]? = some (.cells (xs.map enc).flatten.toArray t)) (hS : S b) (hm : xs.length ≤ maxLen) :
  SliceR t k (rdOf enc) false w S (.slice (some ⟨b, 0, none⟩) xs.length xs.length) xs := by
 refine ⟨_, xs.length, rfl, Nat.le_refl _, hm, .inr ⟨b, 0, rfl, hS, (Array.getElem?_eq_some_iff.1 h).1, (fun e => by cases e), fun i x hx => ⟨enc x, hk x, rfl, fun j u hu => ?_⟩⟩⟩
 rw [cell_of_heap h, Nat.zero_add, List.getElem?_toArray]
 exact flatten_at (xs.map enc) i (enc x) j u (by simp; intro a _; exact hk a) (by rw [List.getElem?_map, hx]; rfl) hu
theorem doc_twoR {W : World} {S : Nat → Prop} {l m : Lin} {a b c e : Value} {g : Nat} (hg : W.heap[g]? = some (.cells #[.int .i64 l.quote, a, .int .i64 l.kind, b, .int .i64 m.quote, c, .int .i64 m.kind, e] 31)) (hI : IntsR false W S a l.lists) (hC : CelsR false W S b l.cells)
  (hI2 : IntsR false W S c m.lists) (hC2 : CelsR false W S e m.cells) (hS : S g) : LinsR W S (.slice (some ⟨g, 0, none⟩) 2 2) [l, m] := by
 refine ⟨_, 2, rfl, by simp, by decide, .inr ⟨g, 0, rfl, hS, (Array.getElem?_eq_some_iff.1 hg).1, (fun e => by cases e), fun i x hx => ?_⟩⟩
 match i, hx with
 | 0, hx =>
  cases hx
  refine ⟨_, rfl, ⟨a, b, rfl, hI, hC⟩, fun j u hu => ?_⟩
  rw [cell_of_heap hg]
  match j, hu with
  | 0, hu => exact hu
  | 1, hu => exact hu
  | 2, hu => exact hu
  | 3, hu => exact hu
 | 1, hx =>
  cases hx
  refine ⟨_, rfl, ⟨c, e, rfl, hI2, hC2⟩, fun j u hu => ?_⟩
  rw [cell_of_heap hg]
  match j, hu with
  | 0, hu => exact hu
  | 1, hu => exact hu
  | 2, hu => exact hu
  | 3, hu => exact hu
structure AwA (w : World) (b1 o1 b2 o2 c2 : Nat) (aa : Option Addr) (ac b3 o3 c3 : Nat) : Prop where
 z1 : b1 < w.heap.size
 z2 : b2 < w.heap.size
 z3 : b3 < w.heap.size
 k1 : w.cell? ⟨b1, o1 + 4 + 3, none⟩ = some (.slice (some ⟨b2, o2, none⟩) 2 c2)
 k2 : w.cell? ⟨b2, o2 + 4, none⟩ = some (.int .i64 11)
 k3 : w.cell? ⟨b2, o2 + 4 + 1, none⟩ = some (.slice aa 0 ac)
 k4 : w.cell? ⟨b2, o2 + 4 + 2, none⟩ = some (.string ⟨#[]⟩)
 k5 : w.cell? ⟨b2, o2 + 4 + 3, none⟩ = some (.slice (some ⟨b3, o3, none⟩) 3 c3)
 k6 : w.cell? ⟨b3, o3 + 8, none⟩ = some (.int .i64 16)
theorem AwA.below {w w' : World} {b1 o1 b2 o2 c2 ac b3 o3 c3 : Nat} {aa : Option Addr} (h : AwA w b1 o1 b2 o2 c2 aa ac b3 o3 c3) (hb : Below w.heap.size w w') : AwA w' b1 o1 b2 o2 c2 aa ac b3 o3 c3 :=
 ⟨Nat.lt_of_lt_of_le h.z1 hb.size, Nat.lt_of_lt_of_le h.z2 hb.size, Nat.lt_of_lt_of_le h.z3 hb.size, (hb.cell h.z1).trans h.k1, (hb.cell h.z2).trans h.k2, (hb.cell h.z2).trans h.k3, (hb.cell h.z2).trans h.k4, (hb.cell h.z2).trans h.k5, (hb.cell h.z3).trans h.k6⟩
theorem awA_of {w : World} {S : Nat → Prop} {v : Value} (h : NodsR false 40 w S v (hostN exD).kids) : ∃ b1 o1 c1 b2 o2 c2 aa ac b3 o3 c3, v = .slice (some ⟨b1, o1, none⟩) 2 c1 ∧ AwA w b1 o1 b2 o2 c2 aa ac b3 o3 c3 := by
 rw [exD_host] at h
 obtain ⟨a, c, rfl, hc, hm, hx⟩ := nods_shape h
 obtain ⟨b1, o1, aa1, ac1, ka1, kc1, h1, _, rfl, hn1⟩ := hx 1 _ rfl
 obtain ⟨a2, c2, e2, hc2, hm2, hx2⟩ := nods_shape hn1.kidsR
 obtain ⟨b2, o2, aa2, ac2, ka2, kc2, h2, _, rfl, hn2⟩ := hx2 1 _ rfl
 obtain ⟨a3, c3, e3, hc3, hm3, hx3⟩ := nods_shape hn2.kidsR
 obtain ⟨b3, o3, aa3, ac3, ka3, kc3, h3, _, rfl, hn3⟩ := hx3 2 _ rfl
 have k1 := hn1.kids
 have k5 := hn2.kids
 rw [e2] at k1
 rw [e3] at k5
 exact ⟨b1, o1, c, b2, o2, c2, aa2, ac2, b3, o3, c3, rfl, hn1.lt, hn2.lt, hn3.lt, k1, hn2.tag, hn2.attrs, hn2.text, k5, hn3.tag⟩
structure AwB (w : World) (b1 o1 : Nat) (ka : Option Addr) (kc : Nat) : Prop where
 z1 : b1 < w.heap.size
 k1 : w.cell? ⟨b1, o1 + 3, none⟩ = some (.slice ka 2 kc)
theorem AwB.below {w w' : World} {b1 o1 kc : Nat} {ka : Option Addr} (h : AwB w b1 o1 ka kc) (hb : Below w.heap.size w w') : AwB w' b1 o1 ka kc := ⟨Nat.lt_of_lt_of_le h.z1 hb.size, (hb.cell h.z1).trans h.k1⟩
theorem awB_of {w : World} {S : Nat → Prop} {v : Value} (h : NodsR false 40 w S v (hostN exL).kids) : ∃ b1 o1 c1 ka kc, v = .slice (some ⟨b1, o1, none⟩) 1 c1 ∧ AwB w b1 o1 ka kc := by
 rw [exL_host] at h
 obtain ⟨a, c, rfl, hc, hm, hx⟩ := nods_shape h
 obtain ⟨b1, o1, aa1, ac1, ka1, kc1, h1, _, rfl, hn1⟩ := hx 0 _ rfl
 exact ⟨b1, o1, c, ka1, kc1, rfl, hn1.lt, by have := hn1.kids; rw [Nat.zero_mul, Nat.add_zero] at this; exact this⟩
end Go.Proofs.Qw
namespace Go.Proofs.YteognfhemmogpaaGreatDoor
open Go.RowKit
open Go.Proofs.Qw
attribute [local go_sem] Oper.semAt_some
set_option maxRecDepth 100000 in
set_option maxHeartbeats 4000000 in
theorem awake19_any (w : World) (he : EnvT w) : Calls Tryz.prog 8 #[] w fun e w' => e = .returned (.bool true) ∧ Below w.heap.size w w' := by
 obtain ⟨W1, hW1⟩ : ∃ W1, (w.alloc (.cells #[.int .i32 97, .int .i64 0, .string ⟨#[]⟩, .int .i32 98, .int .i64 1, .string ⟨#[]⟩, .int .i32 99, .int .i64 3, .string ⟨#[]⟩, .int .i32 10, .int .i64 1, .string ⟨#[]⟩] 51)).alloc (.cells #[.int .i64 0, .slice none 0 0, .int .i64 0, .slice none 0 0, .int .i64 0, .slice none 0 0, .int .i64 0, .slice (some ⟨w.heap.size, 0, none⟩) 4 4] 31) = W1 := ⟨_, rfl⟩
 have hB : Below w.heap.size w W1 := hW1 ▸ ((Below.refl _ _).alloc (Nat.le_refl _) _).alloc (by simp) _
 have k0 : W1.heap[w.heap.size]? = some (.cells #[.int .i32 97, .int .i64 0, .string ⟨#[]⟩, .int .i32 98, .int .i64 1, .string ⟨#[]⟩, .int .i32 99, .int .i64 3, .string ⟨#[]⟩, .int .i32 10, .int .i64 1, .string ⟨#[]⟩] 51) := hW1 ▸ heap_old _ _ (heap_new _ _ rfl)
 have k1 : W1.heap[w.heap.size + 1]? = some (.cells #[.int .i64 0, .slice none 0 0, .int .i64 0, .slice none 0 0, .int .i64 0, .slice none 0 0, .int .i64 0, .slice (some ⟨w.heap.size, 0, none⟩) 4 4] 31) := hW1 ▸ heap_new _ _ (by simp)
 have hd : LinsR W1 (fun _ => True) (.slice (some ⟨w.heap.size + 1, 0, none⟩) 2 2) exD :=
  doc_twoR (l := ⟨0, [], 0, []⟩) (m := ⟨0, [], 0, [⟨97, 0, []⟩, ⟨98, 1, []⟩, ⟨99, 3, []⟩, ⟨10, 1, []⟩]⟩) k1 (SliceR.nil _ _ _ _ _ _) (SliceR.nil _ _ _ _ _ _) (SliceR.nil _ _ _ _ _ _) (slice_blkR (enc := encCel) (fun _ => rfl) [⟨97, 0, []⟩, ⟨98, 1, []⟩, ⟨99, 3, []⟩, ⟨10, 1, []⟩] k0 trivial (by decide)) trivial
 have HH : Hid (∀ W, Below W1.heap.size W1 W → Calls Tryz.prog 12 #[.slice (some ⟨w.heap.size + 1, 0, none⟩) 2 2] W fun e W' => ∃ b1 o1 c1 b2 o2 c2 aa ac b3 o3 c3, e = .returned (.tuple #[.agg #[.int .i64 1, .slice none 0 0, .string ⟨#[]⟩, .slice (some ⟨b1, o1, none⟩) 2 c1], .int .i64 0]) ∧ AwA W' b1 o1 b2 o2 c2 aa ac b3 o3 c3 ∧ Below W.heap.size W W') := Lib.hid fun W hW => (host_yes _ exD W W1 _ hd ((he.below hB).below hW) hW exD_may.1).mono fun _ _ ⟨k', h1, h2, h3⟩ => by
  obtain ⟨b1, o1, c1, b2, o2, c2, aa, ac, b3, o3, c3, rfl, ha⟩ := awA_of (h2.read fun _ _ g => rdNod_read g)
  rw [exD_host] at h1
  exact ⟨b1, o1, c1, b2, o2, c2, aa, ac, b3, o3, c3, h1, ha, h3⟩
 have HP : Hid (∀ W, Below W1.heap.size W1 W → Calls Tryz.prog 17 #[.slice (some ⟨w.heap.size + 1, 0, none⟩) 2 2, .agg #[.int .i64 1, .int .i64 4]] W fun e W' => ∃ b o c, e = .returned (.tuple #[.agg #[.slice (some ⟨b, o, none⟩) 2 c, .int .i64 3], .int .i64 0]) ∧ b < W'.heap.size ∧ W'.cell? ⟨b, o + 1, none⟩ = some (.int .i64 1) ∧ Below W.heap.size W W') := Lib.hid fun W hW => (point_yes _ exD ⟨1, 4⟩ W W1 _ hd ((he.below hB).below hW) hW exD_may.1 (by decide)).mono fun _ _ ⟨qa, qc, h1, h2, h3⟩ => by
  rw [exD_point] at h1 h2
  obtain ⟨a, c, e, _, _, hx⟩ := ints_shape h2
  cases e
  obtain ⟨b, o, rfl, hz, hc⟩ := hx 1 1 rfl
  exact ⟨b, o, _, h1, hz, hc, h3⟩
 have HH2 : Hid (∀ W, Below W1.heap.size W1 W → Calls Tryz.prog 12 #[.slice (some ⟨W.heap.size + 1 + 1, 0, none⟩) 2 2] (((W.alloc (.cells #[.int .i64 0] 3)).alloc (.cells #[.int .i64 0, .int .i64 1] 3)).alloc (.cells #[.int .i64 0, .slice (some ⟨W.heap.size, 0, none⟩) 1 1, .int .i64 0, .slice none 0 0, .int .i64 0, .slice (some ⟨W.heap.size + 1, 0, none⟩) 2 2, .int .i64 0, .slice none 0 0] 31)) fun e W' => ∃ b1 o1 c1 ka kc, e = .returned (.tuple #[.agg #[.int .i64 1, .slice none 0 0, .string ⟨#[]⟩, .slice (some ⟨b1, o1, none⟩) 1 c1], .int .i64 0]) ∧ AwB W' b1 o1 ka kc ∧ Below W.heap.size W W') := Lib.hid fun W hW => by
  obtain ⟨W3, hW3⟩ : ∃ W3, ((W.alloc (.cells #[.int .i64 0] 3)).alloc (.cells #[.int .i64 0, .int .i64 1] 3)).alloc (.cells #[.int .i64 0, .slice (some ⟨W.heap.size, 0, none⟩) 1 1, .int .i64 0, .slice none 0 0, .int .i64 0, .slice (some ⟨W.heap.size + 1, 0, none⟩) 2 2, .int .i64 0, .slice none 0 0] 31) = W3 := ⟨_, rfl⟩
  have hB3 : Below W.heap.size W W3 := hW3 ▸ (((Below.refl _ _).alloc (Nat.le_refl _) _).alloc (by simp) _).alloc (by simp; omega) _
  have g0 : W3.heap[W.heap.size]? = some (.cells #[.int .i64 0] 3) := hW3 ▸ heap_old _ _ (heap_old _ _ (heap_new _ _ rfl))
  have g1 : W3.heap[W.heap.size + 1]? = some (.cells #[.int .i64 0, .int .i64 1] 3) := hW3 ▸ heap_old _ _ (heap_new _ _ (by simp))
  have g2 : W3.heap[W.heap.size + 1 + 1]? = some (.cells #[.int .i64 0, .slice (some ⟨W.heap.size, 0, none⟩) 1 1, .int .i64 0, .slice none 0 0, .int .i64 0, .slice (some ⟨W.heap.size + 1, 0, none⟩) 2 2, .int .i64 0, .slice none 0 0] 31) := hW3 ▸ heap_new _ _ (by simp)
  rw [hW3]
  have hl : LinsR W3 (fun _ => True) (.slice (some ⟨W.heap.size + 1 + 1, 0, none⟩) 2 2) exL :=
   doc_twoR (l := ⟨0, [0], 0, []⟩) (m := ⟨0, [0, 1], 0, []⟩) g2 (slice_blkR (enc := encInt) (fun _ => rfl) [0] g0 trivial (by decide)) (SliceR.nil _ _ _ _ _ _) (slice_blkR (enc := encInt) (fun _ => rfl) [0, 1] g1 trivial (by decide)) (SliceR.nil _ _ _ _ _ _) trivial
  refine (host_yes _ exL W3 W3 _ hl (((he.below hB).below hW).below hB3) (Below.refl _ _) exD_may.2).mono fun _ _ ⟨k', h1, h2, h3⟩ => ?_
  obtain ⟨b1, o1, c1, ka, kc, rfl, ha⟩ := awB_of (h2.read fun _ _ g => rdNod_read g)
  rw [exL_host] at h1
  exact ⟨b1, o1, c1, ka, kc, h1, ha, below_from hB3 h3⟩
 have HW1 := Lib.hid hW1
 have HB := Lib.hid hB
 clear hd he k0 k1 hB hW1
 go_enter Tryz.func8, Tryz.ntmps8
 go_upto_region 7 with (first
  | (go_at_call 12; rw [HW1.out]; refine (HH.out _ (Below.refl _ _)).mono ?_; rintro e w2 ⟨b1, o1, c1, b2, o2, c2, aa, ac, b3, o3, c3, rfl, ha2, hb2⟩)
  | (go_at_call 17; refine (HP.out _ (hb2.alloc hb2.size _)).mono ?_; rintro e w3 ⟨pb, po, pc, rfl, hpz, hpc, hb3⟩; have hx3 := below_from (hb2.alloc hb2.size _) hb3; have hx23 := below_from ((Below.refl w2.heap.size w2).alloc (Nat.le_refl _) _) hb3; have hN3 := heap_below hb3 (heap_new _ _ rfl); obtain ⟨q1, g1⟩ := blk hN3; have hA3 := ha2.below hx23; obtain ⟨z1, z2, z3, m1, m2, m3, m4, m5, m6⟩ := hA3; have zn : w2.heap.size < w3.heap.size := alloc_le hb3.size))
 obtain ⟨W6, hW6⟩ : ∃ W6, (w3.alloc (.cells #[.slice (some ⟨pb, po, none⟩) 2 pc, .int .i64 3] 45)).alloc (.cells #[.int .i64 11, .slice aa 0 ac, .string ⟨#[]⟩, .slice (some ⟨b3, o3, none⟩) 3 c3] 35) = W6 := ⟨_, rfl⟩
 rw [hW6]
 have hb36 : Below w3.heap.size w3 W6 := hW6 ▸ ((Below.refl _ _).alloc (Nat.le_refl _) _).alloc (by simp) _
 have hP6 : Hid (W6.heap[w3.heap.size]? = some (.cells #[.slice (some ⟨pb, po, none⟩) 2 pc, .int .i64 3] 45)) := Lib.hid (hW6 ▸ heap_old _ _ (heap_new _ _ rfl))
 have hB6 : Hid (W6.heap[w3.heap.size + 1]? = some (.cells #[.int .i64 11, .slice aa 0 ac, .string ⟨#[]⟩, .slice (some ⟨b3, o3, none⟩) 3 c3] 35)) := Lib.hid (hW6 ▸ heap_new _ _ (by simp))
 have HA6 := Lib.hid (ha2.below (below_from hx23 hb36))
 have hx6 := Lib.hid (below_from hx3 hb36)
 have HPC := Lib.hid (And.intro (Nat.lt_of_lt_of_le hpz hb36.size) ((hb36.cell (p := ⟨pb, po + 1, none⟩) hpz).trans hpc))
 clear hW6 hb36 hx3 hx23 hpz hpc ha2 hb2 hb3 q1 g1 z1 z2 z3 m1 m2 m3 m4 m5 m6 zn hN3
 go_wp2_with (first
  | (go_at_call 12; refine (HH2.out _ hx6.out).mono ?_; rintro e w7 ⟨d1, p1, c4, ka, kc, rfl, hb7, hx67⟩; obtain ⟨q1, g1⟩ := blk (heap_below hx67 hP6.out); obtain ⟨q2, g2⟩ := blk (heap_below hx67 hB6.out); obtain ⟨z1, z2, z3, m1, m2, m3, m4, m5, m6⟩ := HA6.out.below hx67; have y1 := (Array.getElem?_eq_some_iff.1 (heap_below hx67 hP6.out)).1; have y2 := (Array.getElem?_eq_some_iff.1 (heap_below hx67 hB6.out)).1; obtain ⟨z7, m7⟩ := hb7; have z8 := Nat.lt_of_lt_of_le HPC.out.1 hx67.size; have m8 := (hx67.cell (p := ⟨pb, po + 1, none⟩) HPC.out.1).trans HPC.out.2; have hx7 := Lib.hid (below_from hx6.out hx67); clear hx67)
  )
 go_ret
 exact ⟨rfl, HB.out.trans ((hx7.out.alloc hx7.out.size _).mono HB.out.size)⟩
end Go.Proofs.YteognfhemmogpaaGreatDoor
namespace Go.Proofs.YteognfhemmogpaaGreatDoor
open Go.RowKit
open Go.Proofs.Qw
set_option maxRecDepth 100000 in
set_option maxHeartbeats 4000000 in
theorem long19_any (v : Value) (d : Doc) (w : World) (S : Nat → Prop) (h : LinsR w S v d) (hs : Sane d) :
  Calls Tryz.prog 6 #[v] w (LongSaid d w) := by
 obtain ⟨a, c, rfl, hc, hm, hx⟩ := lins_shape h
 have HX := Lib.hid hx
 have HS := Lib.hid hs
 unfold maxLen at hm
 clear hx h hs
 go_enter Tryz.func6, Tryz.ntmps6
 by_cases hl : 300 < d.length
 ·go_wp2_with fail
  go_ret
  exact ⟨true, rfl, (fun h => by cases h), Below.refl _ _⟩
 ·go_wp2_with fail
  go_loopw [3, 4, 5] (fun n i _ wr => ∃ (k m : Nat), k ≤ d.length ∧ i = .int .i64 k ∧ n = .int .i64 m ∧ m ≤ 5000 ∧ Hid (sizeD (d.take k) ≤ m ∧ ∀ l ∈ d.take k, l.lists.length ≤ 20000 ∧ ∀ c ∈ l.cells, c.href.length ≤ 160007) ∧ Below w.heap.size w wr) (fun _ i _ _ => d.length - (intOf i).toNat)
  case atStart => exact ⟨0, 0, Nat.zero_le _, rfl, rfl, Nat.zero_le _, Lib.hid ⟨Nat.le_refl _, fun l h => by cases h⟩, Below.refl _ _⟩
  case round =>
   obtain ⟨k, m, hk, rfl, rfl, hm2, HA, hb⟩ := hrel
   obtain ⟨wo, rfl⟩ : ∃ wo : World, wo = wr := ⟨_, rfl⟩
   by_cases hlt : k < d.length
   ·obtain ⟨l, hl', hd⟩ := getOf d k hlt
    obtain ⟨b, o, la, lc, ca, cc, rfl, hA⟩ := HX.out k l hl'
    have hsn := HS.out l (List.mem_of_getElem? hl')
    have hs1 := hsn.1
    have hs2 := hsn.2.1
    have HS3 := Lib.hid hsn.2.2
    have HA2 := Lib.hid hA
    obtain ⟨_, c0, c1, c2, c3, _, hcr⟩ := hA.below hb
    obtain ⟨ca', cc', hce, hcl, hcm, hcx⟩ := cels_shape hA.cellsR
    cases hce
    have HCX := Lib.hid hcx
    have HT := Lib.hid hl'
    have i0 : (0 : Int) ≤ (k : Int) := Int.natCast_nonneg _
    have i1 : (k : Int) < (d.length : Int) := by omega
    have hw : IntKind.i64.wrap ((l.cells.length : Int) + (l.lists.length : Int)) = (l.cells.length : Int) + (l.lists.length : Int) := IntWalk.i64_in _ (by omega)
    have hw2 : IntKind.i64.wrap ((m : Int) + ((l.cells.length : Int) + (l.lists.length : Int))) = (m : Int) + ((l.cells.length : Int) + (l.lists.length : Int)) := IntWalk.i64_in _ (by omega)
    unfold maxLen at hcm
    clear hA hl' hd hsn hcx hcr
    go_wp2_with fail
    go_quiet (fail)
    clear hw hw2
    go_wp2_with fail
    go_loopw [3, 5] (fun n j wi => ∃ (q m' : Nat), q ≤ l.cells.length ∧ j = .int .i64 q ∧ n = .int .i64 m' ∧ m' ≤ 562949953421312 ∧ Hid (m + (l.cells.length + l.lists.length) ≤ m' ∧ (m' ≤ 5000 → ∀ c ∈ l.cells.take q, c.href.length ≤ 160007)) ∧ Below w.heap.size w wi) (fun _ j _ => l.cells.length - (intOf j).toNat)
    case atStart => exact ⟨0, m + (l.cells.length + l.lists.length), Nat.zero_le _, rfl, by go_num, by omega, Lib.hid ⟨Nat.le_refl _, fun _ c h => by cases h⟩, drewN_below hb⟩
    case round =>
     obtain ⟨q, m', hq, rfl, rfl, hm3, HQ, hb2⟩ := hrel
     obtain ⟨hzb, c0, c1, c2, c3, _, _⟩ := HA2.out.below hb2
     have hcs : (q < l.cells.length ∧ m' ≤ 5000) ∨ 5000 < m' ∨ (q = l.cells.length ∧ m' ≤ 5000) := by omega
     rcases hcs with ⟨h1, h2⟩ | h2 | ⟨h1, h2⟩
     ·obtain ⟨x, hx, _⟩ := getOf l.cells q h1
      obtain ⟨bc, oc, rfl, hz, k0, k1, k2⟩ := HCX.out q x hx
      have k2 := (hb2.cell (p := ⟨bc, oc + q * 3 + 2, none⟩) hz).trans k2
      have hxl := HS3.out x (List.mem_of_getElem? hx)
      have HN : Hid (m + (l.cells.length + l.lists.length) ≤ m' + x.href.length / 16 ∧ (m' + x.href.length / 16 ≤ 5000 → ∀ c ∈ l.cells.take (q + 1), c.href.length ≤ 160007)) := Lib.hid ⟨by have := HQ.out.1; omega, fun h c hc => by
       rw [take_some hx, List.mem_append] at hc
       rcases hc with hc | hc
       ·exact HQ.out.2 (by omega) c hc
       ·rw [List.mem_singleton] at hc; subst hc; omega⟩
      clear hx
      go_wp2_with fail
      go_roundw
      case rel => exact ⟨q + 1, m' + x.href.length / 16, h1, by go_num, by go_num, by omega, HN, hb2⟩
      case measure => simp [intOf]; omega
     ·by_cases h1 : q < l.cells.length
      all_goals
       go_wp2_with fail
       go_ret
       exact ⟨true, rfl, (fun h => by cases h), hb2⟩
     ·subst h1
      have HN : Hid (sizeD (d.take (k + 1)) ≤ m' ∧ ∀ l ∈ d.take (k + 1), l.lists.length ≤ 20000 ∧ ∀ c ∈ l.cells, c.href.length ≤ 160007) := Lib.hid (by
       have h3 := HQ.out.1
       have h4 := sizeD_step HT.out
       have h5 := HA.out.1
       refine ⟨by omega, fun x hx => ?_⟩
       rw [take_some HT.out, List.mem_append] at hx
       rcases hx with hx | hx
       ·exact HA.out.2 x hx
       ·rw [List.mem_singleton] at hx
        subst hx
        exact ⟨by omega, fun c hc => HQ.out.2 h2 c (by rw [List.take_length]; exact hc)⟩)
      go_wp2_with fail
      go_roundw
      case rel => exact ⟨k + 1, m', hlt, by go_num, rfl, h2, HN, hb2⟩
      case measure => simp [intOf]; omega
   ·obtain rfl : k = d.length := by omega
    have HF : Hid (Sml d) := Lib.hid (by
     have h1 := HA.out
     rw [List.take_length] at h1
     exact ⟨by omega, by omega, h1.2⟩)
    have HB := Lib.hid hb
    clear hb
    go_wp2_with fail
    go_ret
    exact ⟨false, rfl, fun _ => HF.out, HB.out⟩
end Go.Proofs.YteognfhemmogpaaGreatDoor
