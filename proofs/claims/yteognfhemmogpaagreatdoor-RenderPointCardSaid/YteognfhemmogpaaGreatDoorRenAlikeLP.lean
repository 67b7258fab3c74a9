/- The walk of the reference's Row. -/
import Derived.Test.YteognfhemmogpaaGreatDoorRfRowPP
import Derived.Test.YteognfhemmogpaaGreatDoorRenPartsP
import Derived.Test.YteognfhemmogpaaGreatDoorRfShareP
import Derived.Test.YteognfhemmogpaaGreatDoorRenBaseP
import Derived.Deep.RegionHeld3
set_option linter.unusedVariables false
set_option linter.unusedSimpArgs false
namespace Go.Proofs.YteognfhemmogpaaGreatDoor
open Go.RowKit
open Go.Proofs.Qw
attribute [local go_sem ↓] Go.wp_at_zero Go.wp_at_succ
def rdPt : Rd (List Int × Int) := fun w S vs p => ∃ v, vs = [v, .int .i64 p.2] ∧ IntsR true w S v p.1
theorem rdPt_stable : Stable rdPt := ⟨fun _ _ _ _ _ _ ⟨v, h1, h2⟩ hk hS => ⟨v, h1, SliceR.stable (rdOf_stable _) h2 hk hS⟩⟩
theorem eltPt : EltX 2 rdPt :=
 ⟨by decide, fun _ _ _ _ ⟨_, h, _⟩ => by rw [h]; rfl, fun _ _ _ _ ⟨v, h, h2⟩ u hu => by
  obtain ⟨_, _, rfl⟩ := h2.slice
  subst h
  simp at hu
  rcases hu with rfl | rfl <;> rfl, rdPt_stable⟩
theorem rowPt : RowT Tryz.prog 69 45 2 := RowT.mk' (y := 32) Tryz.underlying69 (by kernel_rfl) (by decide) (z := .agg #[.slice none 0 0, .int .i64 0]) (by rfl)
theorem src_pt {w : World} {B : Nat} {a : Option Addr} {n m : Nat} {t : Int} (hB : w.heap[B]? = some (.cells #[.slice a n m, .int .i64 t] 45)) (c : Nat) : Src Tryz.prog 2 69 (.slice (some ⟨B, 0, none⟩) 1 c) 1 [.slice a n m, .int .i64 t] w :=
 Src.ofSlice _ rowPt.under _ 1 c _ (by simp) (fun j u hu => by
  rw [WideShapes.add_plain, cell_of_heap hB, Nat.zero_add]
  simpa using hu) (fun u hu => by simp at hu; rcases hu with rfl | rfl <;> rfl)
theorem below1R {m W : World} (h : Below m.heap.size m W) (X : Obj) : Below m.heap.size m (W.alloc X) := h.alloc h.size X
theorem gr_nil : gr rowK [] = [] := by rw [← rowW_is row_apart]; rfl
def PtB (v : Value) (w : World) : Prop := ∀ d, v.ownBlock = some d → ∃ cs, w.heap[d]? = some (.cells cs 45)
theorem ptB_of {w : World} {n : Nat} {a : Option Addr} {m c : Nat} {xs : List (List Int × Int)} {x : List Int × Int} (h : RwX 45 2 rdPt w n (.slice a m c) (xs ++ [x])) : PtB (.slice a m c) w := by
 obtain ⟨a', c', e, _, _, ⟨h0, _⟩ | ⟨b, o, rfl, _, _, ⟨cs, hf, _⟩, _⟩⟩ := h
 ·exact absurd h0 (by simp)
 ·cases e
  intro d hd
  cases hd
  exact ⟨cs, hf⟩
theorem SliceR.avoidT {α : Type} {t : TypeId} {k : Nat} {R : Rd α} {w : World} {S : Nat → Prop} {v : Value} {xs : List α} (h : SliceR t k R true w S v xs) {b : Nat} {cs : Array Value} {t' : TypeId} (hb : w.heap[b]? = some (.cells cs t')) (ht : t ≠ t') (hR : ∀ vs x, R w S vs x → R w (fun d => S d ∧ d ≠ b) vs x) : SliceR t k R true w (fun d => S d ∧ d ≠ b) v xs := by
 obtain ⟨a, c, e, hc, hm, hx⟩ := h
 refine ⟨a, c, e, hc, hm, ?_⟩
 rcases hx with h1 | ⟨d, o', e, hd, hz, hf, he⟩
 ·exact .inl h1
 ·obtain ⟨cs2, g1, g2⟩ := hf rfl
  refine .inr ⟨d, o', e, ⟨hd, fun e2 => by subst e2; rw [hb] at g1; cases g1; exact ht rfl⟩, hz, hf, fun i x hi => ?_⟩
  obtain ⟨vs, r1, r2, r3⟩ := he i x hi
  exact ⟨vs, r1, hR _ _ r2, r3⟩
theorem rdNod_avoidT {w : World} {b : Nat} {cs : Array Value} {t' : TypeId} (hb : w.heap[b]? = some (.cells cs t')) (h1 : 90 ≠ t') (h2 : 35 ≠ t') : ∀ (h : Nat) {S : Nat → Prop} {vs : List Value} {n : Nod}, rdNod true h w S vs n → rdNod true h w (fun d => S d ∧ d ≠ b) vs n
 | 0, _, _, _, h => h.elim
 | h + 1, _, _, _, ⟨a, k, e, r1, r2⟩ => ⟨a, k, e, SliceR.avoidT r1 hb h1 (fun _ _ g => g), SliceR.avoidT r2 hb h2 (fun _ _ g => rdNod_avoidT hb h1 h2 h g)⟩
theorem keep_nods {h : Nat} {X Y : World} {S : Nat → Prop} {v : Value} {l : List Nod} {row : Option Nat} (hv : NodsR true h X S v l) (hg : X.grownBy Y row) (hp : ∀ d, row = some d → ∃ cs, X.heap[d]? = some (.cells cs 45)) : NodsR true h Y S v l := by
 cases row with
 | none => exact hv.stable (rdNod_stable _ _) ⟨hg.size, fun b _ hz => hg.block b hz (by simp)⟩ (fun _ h _ => h)
 | some d =>
  obtain ⟨cs, hd⟩ := hp d rfl
  have h2 : NodsR true h X (fun b => S b ∧ b ≠ d) v l := SliceR.avoidT hv hd (by decide) (fun _ _ g => rdNod_avoidT hd (by decide) (by decide) h g)
  exact h2.stable (rdNod_stable _ _) ⟨hg.size, fun b hb hz => hg.block b hz (fun e => by cases e; exact hb.2 rfl)⟩ (fun _ h _ => h.1)
set_option maxRecDepth 100000 in
set_option maxHeartbeats 8000000 in
theorem refRow_any (v : Value) (l : List Cel) (w : World) (S : Nat → Prop) (h : CelsR false w S v l) (hl : l.length ≤ 20000) :
  Calls Tryz.prog 34 #[v] w fun e w' => ∃ na nc pa pc, e = .returned (.tuple #[.slice na (gr rowK l).length nc, .slice pa l.length pc]) ∧ NodsR true 8 w' (fun b => w.heap.size ≤ b) (.slice na (gr rowK l).length nc) (gr rowK l) ∧ RwX 45 2 rdPt w' w.heap.size (.slice pa l.length pc) (rowPts l l.length) ∧ Below w.heap.size w w' := by
 obtain ⟨a, ac, rfl, hac, ham, hx⟩ := cels_shape h
 have HX := Lib.hid hx
 unfold maxLen at ham
 clear h hx
 go_enter Tryz.func34, Tryz.ntmps34
 go_wp2_with fail
 go_loopw [4, 5, 6] (fun nv pv i wr => ∃ (k : Nat) (na : Option Addr) (nn nc : Nat) (pa : Option Addr) (pn pc : Nat), k ≤ l.length ∧ i = .int .i64 k ∧ nv = .slice na nn nc ∧ pv = .slice pa pn pc ∧ Hid (NodsR true 8 wr (fun b => w.heap.size ≤ b) (.slice na nn nc) (gr rowK (l.take k))) ∧ Hid (RwX 45 2 rdPt wr w.heap.size (.slice pa pn pc) (rowPts l k)) ∧ Hid (Below w.heap.size w wr) ∧ Hid (PtB (.slice pa pn pc) wr)) (fun _ _ i _ => l.length - (intOf i).toNat)
 case atStart => exact ⟨0, none, 0, 0, none, 0, 0, Nat.zero_le _, rfl, rfl, rfl, Lib.hid (by rw [List.take_zero, gr_nil]; exact SliceR.nil _ _ _ _ _ _), Lib.hid (RwX.nil _ _ _ _ _), Lib.hid (Below.refl _ _), Lib.hid (fun d hd => by cases hd)⟩
 case round =>
  obtain ⟨k, na, nn, nc, pa, pn, pc, hk, rfl, rfl, rfl, HN, HPt, HBr, HPB⟩ := hrel
  obtain rfl : k = pn := by
   obtain ⟨a', c', e⟩ := HPt.out.slice
   rw [pts_len] at e
   cases e
   rfl
  by_cases hlt : k < l.length
  ·obtain ⟨c, hc, _⟩ := getOf l k hlt
   obtain ⟨b, o, rfl, hz, c0, c1, c2⟩ := HX.out k c hc
   have HAT : Hid (∀ X, Below w.heap.size w X → X.cell? ⟨b, o + k * 3, none⟩ = some (.int .i32 c.r) ∧ X.cell? ⟨b, o + k * 3 + 1, none⟩ = some (.int .i64 c.bits) ∧ X.cell? ⟨b, o + k * 3 + 2, none⟩ = some (.string ⟨c.href.toArray⟩)) := Lib.hid fun X hX => ⟨(hX.cell hz).trans c0, (hX.cell hz).trans c1, (hX.cell hz).trans c2⟩
   have HPS := Lib.hid (pts_snoc hc)
   have hx0 : Below w.heap.size w wr := HBr.out
   have hr0 : Below wr.heap.size wr wr := Below.refl _ _
   obtain ⟨W, hW⟩ : ∃ W, wrapsOf rowK c = W := ⟨_, rfl⟩
   have hW5 : W.length ≤ 5 := hW ▸ rowK_len c
   obtain ⟨G, hG⟩ : ∃ G, gr rowK (l.take (k + 1)) = G := ⟨_, rfl⟩
   have hGc : Nod.counts G ≤ 120000 := by
    rw [← hG]
    have h1 := gr_counts rowK (l.take (k + 1))
    have h2 : (l.take (k + 1)).length ≤ 20000 := by rw [List.length_take]; omega
    have h3 : rowK.length + 1 = 6 := rfl
    rw [h3] at h1
    omega
   have hGt : txtSzs G ≤ 80000 := by
    rw [← hG]
    have h1 := gr_txt rowK (l.take (k + 1))
    have h2 : (l.take (k + 1)).length ≤ 20000 := by rw [List.length_take]; omega
    omega
   have hGs : Spine (W.length + 1) G := by
    rw [← hG, ← hW]
    exact gr_spine rowK _ c (by rw [take_some hc]; simp)
   obtain ⟨P, hP⟩ : ∃ P, behindP W.length 0 [] G = P := ⟨_, rfl⟩
   rw [hW, hG, hP] at HPS
   have HBh : Hid (∀ X va vc, Below w.heap.size w X → NodsR true 8 X (fun b => w.heap.size ≤ b) (.slice va G.length vc) G → Calls Tryz.prog 59 #[.slice va G.length vc, .int .i64 W.length] X fun e X' => ∃ qa qc, e = .returned (.agg #[.slice qa P.1.length qc, .int .i64 P.2]) ∧ IntsR true X' (fun b => X.heap.size ≤ b) (.slice qa P.1.length qc) P.1 ∧ Below X.heap.size X X') := Lib.hid fun X va vc hX hg => by
    have := behind_any W.length 8 _ G X (fun b => w.heap.size ≤ b ∧ b < X.heap.size) ((hg.read fun _ _ g => rdNod_read g).stable (rdNod_stable _ _) (Keeps.refl _ _) (fun b hb hz => ⟨hb, hz⟩)) (fun b hb => hb.2) hGs (by omega) (by omega) (by omega)
    rw [hP] at this
    exact this
   have HWc : Hid (∀ X, Below w.heap.size w X → Calls Tryz.prog 57 #[.agg #[.int .i32 c.r, .int .i64 c.bits, .string ⟨c.href.toArray⟩]] X fun e X' => ∃ wa wc, e = .returned (.slice wa W.length wc) ∧ NodsR true 1 X' (fun b => w.heap.size ≤ b) (.slice wa W.length wc) (W.map wrN) ∧ Below X.heap.size X X') := Lib.hid fun X hX => (wraps_any c X).mono fun _ _ ⟨v', h1, h2, h3⟩ => by
    rw [hW] at h2
    have h2 := (RwX.base (rdNod_stable _ _) h2 hX.size).row (rdNod_stable _ _)
    obtain ⟨wa, wc, rfl⟩ := h2.slice
    rw [List.length_map] at h1 h2
    exact ⟨wa, wc, h1, h2, h3⟩
   have HNS : Hid (∀ X, Below wr.heap.size wr X → NodsR true 8 X (fun b => w.heap.size ≤ b) (.slice na nn nc) (gr rowK (l.take k))) := Lib.hid fun X hX => HN.out.below (rdNod_stable _ _) hX
   have HPS0 : Hid (∀ X, Below wr.heap.size wr X → RwX 45 2 rdPt X w.heap.size (.slice pa k pc) (rowPts l k)) := Lib.hid fun X hX => HPt.out.below rdPt_stable (Keeps.all hX)
   have hpl : (rowPts l k).length + 1 ≤ 100000000 := by rw [pts_len]; omega
   have hNc : Nod.counts (gr rowK (l.take k)) ≤ 120000 := by
    have h1 := gr_counts rowK (l.take k)
    have h2 : (l.take k).length ≤ 20000 := by rw [List.length_take]; omega
    have h3 : rowK.length + 1 = 6 := rfl
    rw [h3] at h1
    omega
   have hNt : txtSzs (gr rowK (l.take k)) ≤ 80000 := by
    have h1 := gr_txt rowK (l.take k)
    have h2 : (l.take k).length ≤ 20000 := by rw [List.length_take]; omega
    omega
   obtain ⟨c0, c1, c2⟩ := HAT.out _ hx0
   have i0 : (0 : Int) ≤ (k : Int) := Int.natCast_nonneg _
   have i1 : (k : Int) < (l.length : Int) := by omega
   have HGG := Lib.hid hG
   rcases Nat.eq_zero_or_pos k with hk0 | hk0
   ·have hd0 : decide ((0 : Int) < (k : Int)) = false := decide_eq_false (by omega)
    have hd1 : decide (0 < k) = false := decide_eq_false (by omega)
    have HNS0 : gr rowK (l.take k) = [] := by rw [hk0, List.take_zero, gr_nil]
    have hfst : G = putW [] W (cellN c) 0 := by rw [← hG, hk0, ← hW]; exact row_first (by rw [← hk0]; exact hc)
    rw [HNS0] at HN HNS hNc hNt
    obtain ⟨ns, hns⟩ : ∃ ns : List Nod, ns = [] := ⟨_, rfl⟩
    rw [← hns] at HN HNS hNc hNt
    have hsW : 0 ≤ W.length := Nat.zero_le _
    have hsp : Spine 0 ns := trivial
    by_cases h10 : c.r = 10
    ·have hb10 : (c.r == 10) = true := by simp [h10]
     have hGe : putW ns W brN 0 = G := by rw [hns, hfst]; unfold cellN; rw [if_pos h10]
     have HPu : Hid (∀ X wa wc, Below w.heap.size w X → NodsR true 8 X (fun b => w.heap.size ≤ b) (.slice na nn nc) ns → NodsR true 1 X (fun b => w.heap.size ≤ b) (.slice wa W.length wc) (W.map wrN) → Calls Tryz.prog 52 #[.slice na nn nc, .slice wa W.length wc, .agg #[.int .i64 16, .slice none 0 0, .string ⟨#[]⟩, .slice none 0 0], .int .i64 0] X fun e X' => ∃ va vc, e = .returned (.slice va G.length vc) ∧ NodsR true 8 X' (fun b => w.heap.size ≤ b) (.slice va G.length vc) G ∧ Below X.heap.size X X') := Lib.hid fun X wa wc hX hn hw => by
      refine (put_all 0 8 0 _ _ (.slice none 0 0) (.slice none 0 0) ns W brN X (fun b => w.heap.size ≤ b ∧ b < X.heap.size) (hn.stable (rdNod_stable _ _) (Keeps.refl _ _) (fun b hb hz => ⟨hb, hz⟩)) (hw.stable (rdNod_stable _ _) (Keeps.refl _ _) (fun b hb hz => ⟨hb, hz⟩)) (SliceR.nil _ _ _ _ _ _) (SliceR.nil _ _ _ _ _ _) (fun b hb => hb.2) (by omega) hsW hsp (by omega) (by omega)).mono ?_
      rintro e X' ⟨v', h1, h2, h3⟩
      rw [hGe] at h2
      have h2 := h2.stable (rdNod_stable _ _) (Keeps.refl _ _) (S' := fun b => w.heap.size ≤ b) (fun b hb _ => by
       have := hX.size
       rcases hb with hb | hb
       ·exact hb.1
       ·omega)
      obtain ⟨va, vc, rfl⟩ := h2.slice
      exact ⟨va, vc, h1, h2, h3⟩
     clear hfst HNS0 h10 hc hG hP hW hns hk0
     go_wp2_with (first
      | (go_at_call 57; (with_reducible refine (HWc.out _ (by assumption)).mono ?_); rintro e w2 ⟨wa, wc, rfl, hw2, hb2⟩; have HWN : Hid (∀ X, Below w2.heap.size w2 X → NodsR true 1 X (fun b => w.heap.size ≤ b) (.slice wa W.length wc) (W.map wrN)) := Lib.hid fun X hX => hw2.below (rdNod_stable _ _) hX; have hx2 : Below w.heap.size w w2 := below_from (by assumption) hb2; have hr2 : Below wr.heap.size wr w2 := hb2; have hy2 : Below w2.heap.size w2 w2 := Below.refl _ _; obtain ⟨e0, e1, e2⟩ := HAT.out _ hx2;  clear hw2 hb2)
      | (go_at_call 52; (with_reducible refine (HPu.out _ _ _ (by first | assumption | exact below1R (by assumption) _) (HNS.out _ (by first | assumption | exact below1R (by assumption) _)) (HWN.out _ (by first | assumption | exact below1R (by assumption) _))).mono ?_); rintro e w6 ⟨va, vc, rfl, hg6, hb6⟩; have HG6 := Lib.hid hg6; have hx6 : Below w.heap.size w w6 := below_from (by first | assumption | exact below1R (by assumption) _) hb6; have hr6 : Below wr.heap.size wr w6 := below_from (by first | assumption | exact below1R (by assumption) _) hb6; clear hg6 hb6)
      | (go_at_call 59; (with_reducible refine (HBh.out _ _ _ hx6 HG6.out).mono ?_); rintro e w7 ⟨qa, qc, rfl, hq7, hb7⟩; have HQ7 := Lib.hid hq7; have HB7 := Lib.hid hb7; clear hq7 hb7)
      | (at_builtin; go_must (refine wpList_append_X _ rfl _ _ 69 69 rfl rowPt eltPt w.heap.size (.slice pa k pc) _ (xs := rowPts l k) (ys := [P]) (news := [.slice qa P.1.length qc, .int .i64 P.2]) rfl rfl (HPS0.out _ (below1R (below_from hr6 HB7.out) _)) (below1R (below_from hx6 HB7.out) _).size (src_pt (heap_new _ _ rfl) 1) (news_apart rdPt_stable (HPS0.out _ hr6) hx6.size (NewsR.one rfl ⟨_, rfl, HQ7.out.below (rdOf_stable _) ((Below.refl _ _).alloc (Nat.le_refl _) _)⟩)) hpl ?_); intro v8 w8 hR8 hB8 hG8 hO8; rw [← HPS.out] at hR8; obtain ⟨ua, un, uc, hve⟩ := slice_anyX hR8; subst hve; have HR8 := Lib.hid hR8; have HG8 := Lib.hid hG8; have HB8 := Lib.hid hB8; clear hR8 hB8 hG8 hO8))
     go_roundw
     case rel => exact ⟨k + 1, va, _, vc, ua, un, uc, hlt, by go_num, rfl, rfl, Lib.hid (by rw [HGG.out]; exact keep_nods ((HG6.out.below (rdNod_stable _ _) HB7.out).below (rdNod_stable _ _) ((Below.refl _ _).alloc (Nat.le_refl _) _)) HG8.out (fun d hd => by obtain ⟨cs, hcs⟩ := HPB.out d hd; exact ⟨cs, heap_old _ _ (heap_below (below_from hr6 HB7.out) hcs)⟩)), HR8, Lib.hid (Below.trans (below1R (below_from hx6 HB7.out) _) HB8.out), Lib.hid (ptB_of (HPS.out ▸ HR8.out))⟩
     case measure => simp [intOf]; omega
    ·have hb10 : (c.r == 10) = false := by simp [h10]
     have hGe : putW ns W (txtN [c.r]) 0 = G := by rw [hns, hfst]; unfold cellN; rw [if_neg h10]
     have hcv : ∀ X : World, (convert 96 9 (.slice (some ⟨X.heap.size, 0, none⟩) 1 1)).run Tryz.prog (X.alloc (.cells #[.int .i32 c.r] 21)) = .ok (.string ⟨(txtL [c.r]).toArray⟩) (X.alloc (.cells #[.int .i32 c.r] 21)) := fun X => by
      have h := string_runes (own := false) (S := fun _ => True) (slice_blkS (enc := encRune) (fun _ => rfl) [c.r] (heap_new X (.cells #[.int .i32 c.r] 21) rfl) trivial (by show 1 ≤ maxLen; decide))
      rw [show runesBytes [c.r] = ⟨(txtL [c.r]).toArray⟩ by unfold txtL; rw [← runesBytes_eq]] at h
      exact h
     have HPu : Hid (∀ X wa wc, Below w.heap.size w X → NodsR true 8 X (fun b => w.heap.size ≤ b) (.slice na nn nc) ns → NodsR true 1 X (fun b => w.heap.size ≤ b) (.slice wa W.length wc) (W.map wrN) → Calls Tryz.prog 52 #[.slice na nn nc, .slice wa W.length wc, .agg #[.int .i64 0, .slice none 0 0, .string ⟨(txtL [c.r]).toArray⟩, .slice none 0 0], .int .i64 0] X fun e X' => ∃ va vc, e = .returned (.slice va G.length vc) ∧ NodsR true 8 X' (fun b => w.heap.size ≤ b) (.slice va G.length vc) G ∧ Below X.heap.size X X') := Lib.hid fun X wa wc hX hn hw => by
      refine (put_all 0 8 0 _ _ (.slice none 0 0) (.slice none 0 0) ns W (txtN [c.r]) X (fun b => w.heap.size ≤ b ∧ b < X.heap.size) (hn.stable (rdNod_stable _ _) (Keeps.refl _ _) (fun b hb hz => ⟨hb, hz⟩)) (hw.stable (rdNod_stable _ _) (Keeps.refl _ _) (fun b hb hz => ⟨hb, hz⟩)) (SliceR.nil _ _ _ _ _ _) (SliceR.nil _ _ _ _ _ _) (fun b hb => hb.2) (by omega) hsW hsp (by omega) (by omega)).mono ?_
      rintro e X' ⟨v', h1, h2, h3⟩
      rw [hGe] at h2
      have h2 := h2.stable (rdNod_stable _ _) (Keeps.refl _ _) (S' := fun b => w.heap.size ≤ b) (fun b hb _ => by
       have := hX.size
       rcases hb with hb | hb
       ·exact hb.1
       ·omega)
      obtain ⟨va, vc, rfl⟩ := h2.slice
      exact ⟨va, vc, h1, h2, h3⟩
     clear hfst HNS0 h10 hc hG hP hW hns hk0
     go_wp2_with (first
      | (go_at_call 57; (with_reducible refine (HWc.out _ (by assumption)).mono ?_); rintro e w2 ⟨wa, wc, rfl, hw2, hb2⟩; have HWN : Hid (∀ X, Below w2.heap.size w2 X → NodsR true 1 X (fun b => w.heap.size ≤ b) (.slice wa W.length wc) (W.map wrN)) := Lib.hid fun X hX => hw2.below (rdNod_stable _ _) hX; have hx2 : Below w.heap.size w w2 := below_from (by assumption) hb2; have hr2 : Below wr.heap.size wr w2 := hb2; have hy2 : Below w2.heap.size w2 w2 := Below.refl _ _; obtain ⟨e0, e1, e2⟩ := HAT.out _ hx2;  clear hw2 hb2)
      | (go_at_call 52; (with_reducible refine (HPu.out _ _ _ (by first | assumption | exact below1R (by assumption) _) (HNS.out _ (by first | assumption | exact below1R (by assumption) _)) (HWN.out _ (by first | assumption | exact below1R (by assumption) _))).mono ?_); rintro e w6 ⟨va, vc, rfl, hg6, hb6⟩; have HG6 := Lib.hid hg6; have hx6 : Below w.heap.size w w6 := below_from (by first | assumption | exact below1R (by assumption) _) hb6; have hr6 : Below wr.heap.size wr w6 := below_from (by first | assumption | exact below1R (by assumption) _) hb6; clear hg6 hb6)
      | (go_at_call 59; (with_reducible refine (HBh.out _ _ _ hx6 HG6.out).mono ?_); rintro e w7 ⟨qa, qc, rfl, hq7, hb7⟩; have HQ7 := Lib.hid hq7; have HB7 := Lib.hid hb7; clear hq7 hb7)
      | (at_builtin; go_must (refine wpList_append_X _ rfl _ _ 69 69 rfl rowPt eltPt w.heap.size (.slice pa k pc) _ (xs := rowPts l k) (ys := [P]) (news := [.slice qa P.1.length qc, .int .i64 P.2]) rfl rfl (HPS0.out _ (below1R (below_from hr6 HB7.out) _)) (below1R (below_from hx6 HB7.out) _).size (src_pt (heap_new _ _ rfl) 1) (news_apart rdPt_stable (HPS0.out _ hr6) hx6.size (NewsR.one rfl ⟨_, rfl, HQ7.out.below (rdOf_stable _) ((Below.refl _ _).alloc (Nat.le_refl _) _)⟩)) hpl ?_); intro v8 w8 hR8 hB8 hG8 hO8; rw [← HPS.out] at hR8; obtain ⟨ua, un, uc, hve⟩ := slice_anyX hR8; subst hve; have HR8 := Lib.hid hR8; have HG8 := Lib.hid hG8; have HB8 := Lib.hid hB8; clear hR8 hB8 hG8 hO8))
     go_roundw
     case rel => exact ⟨k + 1, va, _, vc, ua, un, uc, hlt, by go_num, rfl, rfl, Lib.hid (by rw [HGG.out]; exact keep_nods ((HG6.out.below (rdNod_stable _ _) HB7.out).below (rdNod_stable _ _) ((Below.refl _ _).alloc (Nat.le_refl _) _)) HG8.out (fun d hd => by obtain ⟨cs, hcs⟩ := HPB.out d hd; exact ⟨cs, heap_old _ _ (heap_below (below_from hr6 HB7.out) hcs)⟩)), HR8, Lib.hid (Below.trans (below1R (below_from hx6 HB7.out) _) HB8.out), Lib.hid (ptB_of (HPS.out ▸ HR8.out))⟩
     case measure => simp [intOf]; omega
   ·obtain ⟨j, hj⟩ : ∃ j, k = j + 1 := ⟨k - 1, by omega⟩
    obtain ⟨p0, hp, _⟩ := getOf l j (by omega)
    obtain ⟨b', o', e', hz', g0, g1, g2⟩ := HX.out j p0 hp
    cases e'
    have HATb : Hid (∀ X, Below w.heap.size w X → X.cell? ⟨b, o + j * 3, none⟩ = some (.int .i32 p0.r) ∧ X.cell? ⟨b, o + j * 3 + 1, none⟩ = some (.int .i64 p0.bits) ∧ X.cell? ⟨b, o + j * 3 + 2, none⟩ = some (.string ⟨p0.href.toArray⟩)) := Lib.hid fun X hX => ⟨(hX.cell hz').trans g0, (hX.cell hz').trans g1, (hX.cell hz').trans g2⟩
    have hd0 : decide ((0 : Int) < (k : Int)) = true := decide_eq_true (by omega)
    have hd1 : decide (0 < k) = true := decide_eq_true (by omega)
    have hwk : IntKind.i64.wrap ((k : Int) - 1) = (j : Int) := by rw [IntKind.wrap_i64]; omega
    have j0 : (0 : Int) ≤ (j : Int) := Int.natCast_nonneg _
    have j1 : (j : Int) < (l.length : Int) := by omega
    obtain ⟨Wb, hWb⟩ : ∃ Wb, wrapsOf rowK p0 = Wb := ⟨_, rfl⟩
    have hWb5 : Wb.length ≤ 5 := hWb ▸ rowK_len p0
    have HWb : Hid (∀ X, Below w.heap.size w X → Calls Tryz.prog 57 #[.agg #[.int .i32 p0.r, .int .i64 p0.bits, .string ⟨p0.href.toArray⟩]] X fun e X' => ∃ wa wc, e = .returned (.slice wa Wb.length wc) ∧ NodsR true 1 X' (fun b => w.heap.size ≤ b) (.slice wa Wb.length wc) (Wb.map wrN) ∧ Below X.heap.size X X') := Lib.hid fun X hX => (wraps_any p0 X).mono fun _ _ ⟨v', h1, h2, h3⟩ => by
     rw [hWb] at h2
     have h2 := (RwX.base (rdNod_stable _ _) h2 hX.size).row (rdNod_stable _ _)
     obtain ⟨wa, wc, rfl⟩ := h2.slice
     rw [List.length_map] at h1 h2
     exact ⟨wa, wc, h1, h2, h3⟩
    obtain ⟨s, hs⟩ : ∃ s, sharedW Wb W = s := ⟨_, rfl⟩
    have hsl := shared_le Wb W
    rw [hs] at hsl
    have HSh : Hid (∀ X ba bc wa wc, NodsR true 1 X (fun b => w.heap.size ≤ b) (.slice ba Wb.length bc) (Wb.map wrN) → NodsR true 1 X (fun b => w.heap.size ≤ b) (.slice wa W.length wc) (W.map wrN) → Calls Tryz.prog 51 #[.slice ba Wb.length bc, .slice wa W.length wc] X fun e X' => e = .returned (.int .i64 s) ∧ Below X.heap.size X X') := Lib.hid fun X ba bc wa wc h1 h2 => by
     have := shared_any 1 _ _ _ _ X _ _ (h1.read fun _ _ g => rdNod_read g) (h2.read fun _ _ g => rdNod_read g) (by rw [List.length_map]; omega)
     rw [sharedN_map, hs] at this
     exact this
    obtain ⟨ns, hns⟩ : ∃ ns, gr rowK (l.take k) = ns := ⟨_, rfl⟩
    have hspn : Spine (Wb.length + 1) ns := by
     rw [← hns, ← hWb, hj]
     exact gr_spine rowK _ p0 (by rw [take_some hp]; simp)
    have hsp : Spine s ns := spine_down (by omega) hspn
    have hsW : s ≤ W.length := hsl.2
    have hGs : G = if c.r = 10 then putW ns W brN s else if p0.r ≠ 10 ∧ s = W.length ∧ s = Wb.length then growW W.length c.r ns else putW ns W (txtN [c.r]) s := by
     rw [← hG, ← hns, hj, row_next hp (by rw [← hj]; exact hc), ← hs, ← hWb, ← hW]
     rfl
    rw [hns] at HN HNS hNc hNt
    obtain ⟨d0, d1, d2⟩ := HATb.out _ hx0
    by_cases h10 : c.r = 10
    ·have hb10 : (c.r == 10) = true := by simp [h10]
     have hGe : putW ns W brN s = G := by rw [hGs, if_pos h10]
     have HPu : Hid (∀ X wa wc, Below w.heap.size w X → NodsR true 8 X (fun b => w.heap.size ≤ b) (.slice na nn nc) ns → NodsR true 1 X (fun b => w.heap.size ≤ b) (.slice wa W.length wc) (W.map wrN) → Calls Tryz.prog 52 #[.slice na nn nc, .slice wa W.length wc, .agg #[.int .i64 16, .slice none 0 0, .string ⟨#[]⟩, .slice none 0 0], .int .i64 s] X fun e X' => ∃ va vc, e = .returned (.slice va G.length vc) ∧ NodsR true 8 X' (fun b => w.heap.size ≤ b) (.slice va G.length vc) G ∧ Below X.heap.size X X') := Lib.hid fun X wa wc hX hn hw => by
      refine (put_all s 8 0 _ _ (.slice none 0 0) (.slice none 0 0) ns W brN X (fun b => w.heap.size ≤ b ∧ b < X.heap.size) (hn.stable (rdNod_stable _ _) (Keeps.refl _ _) (fun b hb hz => ⟨hb, hz⟩)) (hw.stable (rdNod_stable _ _) (Keeps.refl _ _) (fun b hb hz => ⟨hb, hz⟩)) (SliceR.nil _ _ _ _ _ _) (SliceR.nil _ _ _ _ _ _) (fun b hb => hb.2) (by omega) hsW hsp (by omega) (by omega)).mono ?_
      rintro e X' ⟨v', h1, h2, h3⟩
      rw [hGe] at h2
      have h2 := h2.stable (rdNod_stable _ _) (Keeps.refl _ _) (S' := fun b => w.heap.size ≤ b) (fun b hb _ => by
       have := hX.size
       rcases hb with hb | hb
       ·exact hb.1
       ·omega)
      obtain ⟨va, vc, rfl⟩ := h2.slice
      exact ⟨va, vc, h1, h2, h3⟩
     clear hGs h10 hc hG hP hW hns hj hp hs hWb hk0 hsl hspn
     go_wp2_with (first
      | (go_at_call 57; (with_reducible refine (HWc.out _ (by assumption)).mono ?_); rintro e w2 ⟨wa, wc, rfl, hw2, hb2⟩; have HWN : Hid (∀ X, Below w2.heap.size w2 X → NodsR true 1 X (fun b => w.heap.size ≤ b) (.slice wa W.length wc) (W.map wrN)) := Lib.hid fun X hX => hw2.below (rdNod_stable _ _) hX; have hx2 : Below w.heap.size w w2 := below_from (by assumption) hb2; have hr2 : Below wr.heap.size wr w2 := hb2; have hy2 : Below w2.heap.size w2 w2 := Below.refl _ _; obtain ⟨e0, e1, e2⟩ := HAT.out _ hx2; obtain ⟨d0, d1, d2⟩ := HATb.out _ hx2; clear hw2 hb2)
      | (go_at_call 57; (with_reducible refine (HWb.out _ (by assumption)).mono ?_); rintro e w3 ⟨ba, bc, rfl, hw3, hb3⟩; have HW3 := Lib.hid hw3; have hx3 : Below w.heap.size w w3 := below_from (by assumption) hb3; have hr3 : Below wr.heap.size wr w3 := below_from (by assumption) hb3; have hy3 : Below w2.heap.size w2 w3 := below_from (by assumption) hb3; obtain ⟨e0, e1, e2⟩ := HAT.out _ hx3; obtain ⟨d0, d1, d2⟩ := HATb.out _ hx3; clear hw3 hb3)
      | (go_at_call 51; (with_reducible refine (HSh.out _ _ _ _ _ HW3.out (HWN.out _ (by assumption))).mono ?_); rintro e w4 ⟨rfl, hb4⟩; have hx4 : Below w.heap.size w w4 := below_from (by assumption) hb4; have hr4 : Below wr.heap.size wr w4 := below_from (by assumption) hb4; have hy4 : Below w2.heap.size w2 w4 := below_from (by assumption) hb4; obtain ⟨e0, e1, e2⟩ := HAT.out _ hx4; obtain ⟨d0, d1, d2⟩ := HATb.out _ hx4; clear hb4)
      | (go_at_call 52; (with_reducible refine (HPu.out _ _ _ (by first | assumption | exact below1R (by assumption) _) (HNS.out _ (by first | assumption | exact below1R (by assumption) _)) (HWN.out _ (by first | assumption | exact below1R (by assumption) _))).mono ?_); rintro e w6 ⟨va, vc, rfl, hg6, hb6⟩; have HG6 := Lib.hid hg6; have hx6 : Below w.heap.size w w6 := below_from (by first | assumption | exact below1R (by assumption) _) hb6; have hr6 : Below wr.heap.size wr w6 := below_from (by first | assumption | exact below1R (by assumption) _) hb6; clear hg6 hb6)
      | (go_at_call 59; (with_reducible refine (HBh.out _ _ _ hx6 HG6.out).mono ?_); rintro e w7 ⟨qa, qc, rfl, hq7, hb7⟩; have HQ7 := Lib.hid hq7; have HB7 := Lib.hid hb7; clear hq7 hb7)
      | (at_builtin; go_must (refine wpList_append_X _ rfl _ _ 69 69 rfl rowPt eltPt w.heap.size (.slice pa k pc) _ (xs := rowPts l k) (ys := [P]) (news := [.slice qa P.1.length qc, .int .i64 P.2]) rfl rfl (HPS0.out _ (below1R (below_from hr6 HB7.out) _)) (below1R (below_from hx6 HB7.out) _).size (src_pt (heap_new _ _ rfl) 1) (news_apart rdPt_stable (HPS0.out _ hr6) hx6.size (NewsR.one rfl ⟨_, rfl, HQ7.out.below (rdOf_stable _) ((Below.refl _ _).alloc (Nat.le_refl _) _)⟩)) hpl ?_); intro v8 w8 hR8 hB8 hG8 hO8; rw [← HPS.out] at hR8; obtain ⟨ua, un, uc, hve⟩ := slice_anyX hR8; subst hve; have HR8 := Lib.hid hR8; have HG8 := Lib.hid hG8; have HB8 := Lib.hid hB8; clear hR8 hB8 hG8 hO8))
     go_roundw
     case rel => exact ⟨k + 1, va, _, vc, ua, un, uc, hlt, by go_num, rfl, rfl, Lib.hid (by rw [HGG.out]; exact keep_nods ((HG6.out.below (rdNod_stable _ _) HB7.out).below (rdNod_stable _ _) ((Below.refl _ _).alloc (Nat.le_refl _) _)) HG8.out (fun d hd => by obtain ⟨cs, hcs⟩ := HPB.out d hd; exact ⟨cs, heap_old _ _ (heap_below (below_from hr6 HB7.out) hcs)⟩)), HR8, Lib.hid (Below.trans (below1R (below_from hx6 HB7.out) _) HB8.out), Lib.hid (ptB_of (HPS.out ▸ HR8.out))⟩
     case measure => simp [intOf]; omega
    ·have hb10 : (c.r == 10) = false := by simp [h10]
     rw [if_neg h10] at hGs
     have hcv : ∀ X : World, (convert 96 9 (.slice (some ⟨X.heap.size, 0, none⟩) 1 1)).run Tryz.prog (X.alloc (.cells #[.int .i32 c.r] 21)) = .ok (.string ⟨(txtL [c.r]).toArray⟩) (X.alloc (.cells #[.int .i32 c.r] 21)) := fun X => by
      have h := string_runes (own := false) (S := fun _ => True) (slice_blkS (enc := encRune) (fun _ => rfl) [c.r] (heap_new X (.cells #[.int .i32 c.r] 21) rfl) trivial (by show 1 ≤ maxLen; decide))
      rw [show runesBytes [c.r] = ⟨(txtL [c.r]).toArray⟩ by unfold txtL; rw [← runesBytes_eq]] at h
      exact h
     by_cases hq10 : p0.r = 10
     ·have hbq : (p0.r != 10) = false := by simp [hq10]
      have hGe : putW ns W (txtN [c.r]) s = G := by rw [hGs, if_neg (fun e => e.1 hq10)]
      have HPu : Hid (∀ X wa wc, Below w.heap.size w X → NodsR true 8 X (fun b => w.heap.size ≤ b) (.slice na nn nc) ns → NodsR true 1 X (fun b => w.heap.size ≤ b) (.slice wa W.length wc) (W.map wrN) → Calls Tryz.prog 52 #[.slice na nn nc, .slice wa W.length wc, .agg #[.int .i64 0, .slice none 0 0, .string ⟨(txtL [c.r]).toArray⟩, .slice none 0 0], .int .i64 s] X fun e X' => ∃ va vc, e = .returned (.slice va G.length vc) ∧ NodsR true 8 X' (fun b => w.heap.size ≤ b) (.slice va G.length vc) G ∧ Below X.heap.size X X') := Lib.hid fun X wa wc hX hn hw => by
       refine (put_all s 8 0 _ _ (.slice none 0 0) (.slice none 0 0) ns W (txtN [c.r]) X (fun b => w.heap.size ≤ b ∧ b < X.heap.size) (hn.stable (rdNod_stable _ _) (Keeps.refl _ _) (fun b hb hz => ⟨hb, hz⟩)) (hw.stable (rdNod_stable _ _) (Keeps.refl _ _) (fun b hb hz => ⟨hb, hz⟩)) (SliceR.nil _ _ _ _ _ _) (SliceR.nil _ _ _ _ _ _) (fun b hb => hb.2) (by omega) hsW hsp (by omega) (by omega)).mono ?_
       rintro e X' ⟨v', h1, h2, h3⟩
       rw [hGe] at h2
       have h2 := h2.stable (rdNod_stable _ _) (Keeps.refl _ _) (S' := fun b => w.heap.size ≤ b) (fun b hb _ => by
        have := hX.size
        rcases hb with hb | hb
        ·exact hb.1
        ·omega)
       obtain ⟨va, vc, rfl⟩ := h2.slice
       exact ⟨va, vc, h1, h2, h3⟩
      clear hGs h10 hc hG hP hW hns hj hp hs hWb hk0 hsl hspn
      clear hq10
      go_wp2_with (first
       | (go_at_call 57; (with_reducible refine (HWc.out _ (by assumption)).mono ?_); rintro e w2 ⟨wa, wc, rfl, hw2, hb2⟩; have HWN : Hid (∀ X, Below w2.heap.size w2 X → NodsR true 1 X (fun b => w.heap.size ≤ b) (.slice wa W.length wc) (W.map wrN)) := Lib.hid fun X hX => hw2.below (rdNod_stable _ _) hX; have hx2 : Below w.heap.size w w2 := below_from (by assumption) hb2; have hr2 : Below wr.heap.size wr w2 := hb2; have hy2 : Below w2.heap.size w2 w2 := Below.refl _ _; obtain ⟨e0, e1, e2⟩ := HAT.out _ hx2; obtain ⟨d0, d1, d2⟩ := HATb.out _ hx2; clear hw2 hb2)
       | (go_at_call 57; (with_reducible refine (HWb.out _ (by assumption)).mono ?_); rintro e w3 ⟨ba, bc, rfl, hw3, hb3⟩; have HW3 := Lib.hid hw3; have hx3 : Below w.heap.size w w3 := below_from (by assumption) hb3; have hr3 : Below wr.heap.size wr w3 := below_from (by assumption) hb3; have hy3 : Below w2.heap.size w2 w3 := below_from (by assumption) hb3; obtain ⟨e0, e1, e2⟩ := HAT.out _ hx3; obtain ⟨d0, d1, d2⟩ := HATb.out _ hx3; clear hw3 hb3)
       | (go_at_call 51; (with_reducible refine (HSh.out _ _ _ _ _ HW3.out (HWN.out _ (by assumption))).mono ?_); rintro e w4 ⟨rfl, hb4⟩; have hx4 : Below w.heap.size w w4 := below_from (by assumption) hb4; have hr4 : Below wr.heap.size wr w4 := below_from (by assumption) hb4; have hy4 : Below w2.heap.size w2 w4 := below_from (by assumption) hb4; obtain ⟨e0, e1, e2⟩ := HAT.out _ hx4; obtain ⟨d0, d1, d2⟩ := HATb.out _ hx4; clear hb4)
       | (go_at_call 52; (with_reducible refine (HPu.out _ _ _ (by first | assumption | exact below1R (by assumption) _) (HNS.out _ (by first | assumption | exact below1R (by assumption) _)) (HWN.out _ (by first | assumption | exact below1R (by assumption) _))).mono ?_); rintro e w6 ⟨va, vc, rfl, hg6, hb6⟩; have HG6 := Lib.hid hg6; have hx6 : Below w.heap.size w w6 := below_from (by first | assumption | exact below1R (by assumption) _) hb6; have hr6 : Below wr.heap.size wr w6 := below_from (by first | assumption | exact below1R (by assumption) _) hb6; clear hg6 hb6)
       | (go_at_call 59; (with_reducible refine (HBh.out _ _ _ hx6 HG6.out).mono ?_); rintro e w7 ⟨qa, qc, rfl, hq7, hb7⟩; have HQ7 := Lib.hid hq7; have HB7 := Lib.hid hb7; clear hq7 hb7)
       | (at_builtin; go_must (refine wpList_append_X _ rfl _ _ 69 69 rfl rowPt eltPt w.heap.size (.slice pa k pc) _ (xs := rowPts l k) (ys := [P]) (news := [.slice qa P.1.length qc, .int .i64 P.2]) rfl rfl (HPS0.out _ (below1R (below_from hr6 HB7.out) _)) (below1R (below_from hx6 HB7.out) _).size (src_pt (heap_new _ _ rfl) 1) (news_apart rdPt_stable (HPS0.out _ hr6) hx6.size (NewsR.one rfl ⟨_, rfl, HQ7.out.below (rdOf_stable _) ((Below.refl _ _).alloc (Nat.le_refl _) _)⟩)) hpl ?_); intro v8 w8 hR8 hB8 hG8 hO8; rw [← HPS.out] at hR8; obtain ⟨ua, un, uc, hve⟩ := slice_anyX hR8; subst hve; have HR8 := Lib.hid hR8; have HG8 := Lib.hid hG8; have HB8 := Lib.hid hB8; clear hR8 hB8 hG8 hO8))
      go_roundw
      case rel => exact ⟨k + 1, va, _, vc, ua, un, uc, hlt, by go_num, rfl, rfl, Lib.hid (by rw [HGG.out]; exact keep_nods ((HG6.out.below (rdNod_stable _ _) HB7.out).below (rdNod_stable _ _) ((Below.refl _ _).alloc (Nat.le_refl _) _)) HG8.out (fun d hd => by obtain ⟨cs, hcs⟩ := HPB.out d hd; exact ⟨cs, heap_old _ _ (heap_below (below_from hr6 HB7.out) hcs)⟩)), HR8, Lib.hid (Below.trans (below1R (below_from hx6 HB7.out) _) HB8.out), Lib.hid (ptB_of (HPS.out ▸ HR8.out))⟩
      case measure => simp [intOf]; omega
     ·have hbq : (p0.r != 10) = true := by simp [hq10]
      by_cases hs1 : s = W.length
      ·have hbs : ((s : Int) == (W.length : Int)) = true := by simp [hs1]
       have hbn : (s == W.length) = true := by simp [hs1]
       by_cases hs2 : s = Wb.length
       ·have hbs2 : ((s : Int) == (Wb.length : Int)) = true := by simp [hs2]
        have hbn2 : (s == Wb.length) = true := by simp [hs2]
        have hGe : growW W.length c.r ns = G := by rw [hGs, if_pos ⟨hq10, hs1, hs2⟩]
        have hspw : Spine (W.length + 1) ns := spine_down (by omega) hspn
        have HGr : Hid (∀ X, Below w.heap.size w X → NodsR true 8 X (fun b => w.heap.size ≤ b) (.slice na nn nc) ns → Calls Tryz.prog 58 #[.slice na nn nc, .int .i64 W.length, .int .i32 c.r] X fun e X' => ∃ va vc, e = .returned (.slice va G.length vc) ∧ NodsR true 8 X' (fun b => w.heap.size ≤ b) (.slice va G.length vc) G ∧ Below X.heap.size X X') := Lib.hid fun X hX hn => by
         refine (grow_all W.length 8 _ ns c.r X (fun b => w.heap.size ≤ b ∧ b < X.heap.size) (hn.stable (rdNod_stable _ _) (Keeps.refl _ _) (fun b hb hz => ⟨hb, hz⟩)) (fun b hb => hb.2) hspw (by omega) (by omega) (by omega)).mono ?_
         rintro e X' ⟨v', h1, h2, h3⟩
         rw [hGe] at h2
         have h2 := h2.stable (rdNod_stable _ _) (Keeps.refl _ _) (S' := fun b => w.heap.size ≤ b) (fun b hb _ => by
          have := hX.size
          rcases hb with hb | hb
          ·exact hb.1
          ·omega)
         obtain ⟨va, vc, rfl⟩ := h2.slice
         exact ⟨va, vc, h1, h2, h3⟩
        clear hGs h10 hc hG hP hW hns hj hp hs hWb hk0 hsl hspn
        clear hs1 hs2 hspw
        go_wp2_with (first
         | (go_at_call 57; (with_reducible refine (HWc.out _ (by assumption)).mono ?_); rintro e w2 ⟨wa, wc, rfl, hw2, hb2⟩; have HWN : Hid (∀ X, Below w2.heap.size w2 X → NodsR true 1 X (fun b => w.heap.size ≤ b) (.slice wa W.length wc) (W.map wrN)) := Lib.hid fun X hX => hw2.below (rdNod_stable _ _) hX; have hx2 : Below w.heap.size w w2 := below_from (by assumption) hb2; have hr2 : Below wr.heap.size wr w2 := hb2; have hy2 : Below w2.heap.size w2 w2 := Below.refl _ _; obtain ⟨e0, e1, e2⟩ := HAT.out _ hx2; obtain ⟨d0, d1, d2⟩ := HATb.out _ hx2; clear hw2 hb2)
         | (go_at_call 57; (with_reducible refine (HWb.out _ (by assumption)).mono ?_); rintro e w3 ⟨ba, bc, rfl, hw3, hb3⟩; have HW3 := Lib.hid hw3; have hx3 : Below w.heap.size w w3 := below_from (by assumption) hb3; have hr3 : Below wr.heap.size wr w3 := below_from (by assumption) hb3; have hy3 : Below w2.heap.size w2 w3 := below_from (by assumption) hb3; obtain ⟨e0, e1, e2⟩ := HAT.out _ hx3; obtain ⟨d0, d1, d2⟩ := HATb.out _ hx3; clear hw3 hb3)
         | (go_at_call 51; (with_reducible refine (HSh.out _ _ _ _ _ HW3.out (HWN.out _ (by assumption))).mono ?_); rintro e w4 ⟨rfl, hb4⟩; have hx4 : Below w.heap.size w w4 := below_from (by assumption) hb4; have hr4 : Below wr.heap.size wr w4 := below_from (by assumption) hb4; have hy4 : Below w2.heap.size w2 w4 := below_from (by assumption) hb4; obtain ⟨e0, e1, e2⟩ := HAT.out _ hx4; obtain ⟨d0, d1, d2⟩ := HATb.out _ hx4; clear hb4)
         | (go_at_call 58; (with_reducible refine (HGr.out _ (by assumption) (HNS.out _ (by assumption))).mono ?_); rintro e w6 ⟨va, vc, rfl, hg6, hb6⟩; have HG6 := Lib.hid hg6; have hx6 : Below w.heap.size w w6 := below_from (by assumption) hb6; have hr6 : Below wr.heap.size wr w6 := below_from (by assumption) hb6; clear hg6 hb6)
         | (go_at_call 59; (with_reducible refine (HBh.out _ _ _ hx6 HG6.out).mono ?_); rintro e w7 ⟨qa, qc, rfl, hq7, hb7⟩; have HQ7 := Lib.hid hq7; have HB7 := Lib.hid hb7; clear hq7 hb7)
         | (at_builtin; go_must (refine wpList_append_X _ rfl _ _ 69 69 rfl rowPt eltPt w.heap.size (.slice pa k pc) _ (xs := rowPts l k) (ys := [P]) (news := [.slice qa P.1.length qc, .int .i64 P.2]) rfl rfl (HPS0.out _ (below1R (below_from hr6 HB7.out) _)) (below1R (below_from hx6 HB7.out) _).size (src_pt (heap_new _ _ rfl) 1) (news_apart rdPt_stable (HPS0.out _ hr6) hx6.size (NewsR.one rfl ⟨_, rfl, HQ7.out.below (rdOf_stable _) ((Below.refl _ _).alloc (Nat.le_refl _) _)⟩)) hpl ?_); intro v8 w8 hR8 hB8 hG8 hO8; rw [← HPS.out] at hR8; obtain ⟨ua, un, uc, hve⟩ := slice_anyX hR8; subst hve; have HR8 := Lib.hid hR8; have HG8 := Lib.hid hG8; have HB8 := Lib.hid hB8; clear hR8 hB8 hG8 hO8))
        go_roundw
        case rel => exact ⟨k + 1, va, _, vc, ua, un, uc, hlt, by go_num, rfl, rfl, Lib.hid (by rw [HGG.out]; exact keep_nods ((HG6.out.below (rdNod_stable _ _) HB7.out).below (rdNod_stable _ _) ((Below.refl _ _).alloc (Nat.le_refl _) _)) HG8.out (fun d hd => by obtain ⟨cs, hcs⟩ := HPB.out d hd; exact ⟨cs, heap_old _ _ (heap_below (below_from hr6 HB7.out) hcs)⟩)), HR8, Lib.hid (Below.trans (below1R (below_from hx6 HB7.out) _) HB8.out), Lib.hid (ptB_of (HPS.out ▸ HR8.out))⟩
        case measure => simp [intOf]; omega
       ·have hbs2 : ((s : Int) == (Wb.length : Int)) = false := by simp; omega
        have hbn2 : (s == Wb.length) = false := by simp; omega
        have hGe : putW ns W (txtN [c.r]) s = G := by rw [hGs, if_neg (fun e => hs2 e.2.2)]
        have HPu : Hid (∀ X wa wc, Below w.heap.size w X → NodsR true 8 X (fun b => w.heap.size ≤ b) (.slice na nn nc) ns → NodsR true 1 X (fun b => w.heap.size ≤ b) (.slice wa W.length wc) (W.map wrN) → Calls Tryz.prog 52 #[.slice na nn nc, .slice wa W.length wc, .agg #[.int .i64 0, .slice none 0 0, .string ⟨(txtL [c.r]).toArray⟩, .slice none 0 0], .int .i64 s] X fun e X' => ∃ va vc, e = .returned (.slice va G.length vc) ∧ NodsR true 8 X' (fun b => w.heap.size ≤ b) (.slice va G.length vc) G ∧ Below X.heap.size X X') := Lib.hid fun X wa wc hX hn hw => by
         refine (put_all s 8 0 _ _ (.slice none 0 0) (.slice none 0 0) ns W (txtN [c.r]) X (fun b => w.heap.size ≤ b ∧ b < X.heap.size) (hn.stable (rdNod_stable _ _) (Keeps.refl _ _) (fun b hb hz => ⟨hb, hz⟩)) (hw.stable (rdNod_stable _ _) (Keeps.refl _ _) (fun b hb hz => ⟨hb, hz⟩)) (SliceR.nil _ _ _ _ _ _) (SliceR.nil _ _ _ _ _ _) (fun b hb => hb.2) (by omega) hsW hsp (by omega) (by omega)).mono ?_
         rintro e X' ⟨v', h1, h2, h3⟩
         rw [hGe] at h2
         have h2 := h2.stable (rdNod_stable _ _) (Keeps.refl _ _) (S' := fun b => w.heap.size ≤ b) (fun b hb _ => by
          have := hX.size
          rcases hb with hb | hb
          ·exact hb.1
          ·omega)
         obtain ⟨va, vc, rfl⟩ := h2.slice
         exact ⟨va, vc, h1, h2, h3⟩
        clear hGs h10 hc hG hP hW hns hj hp hs hWb hk0 hsl hspn
        clear hs1 hs2
        go_wp2_with (first
         | (go_at_call 57; (with_reducible refine (HWc.out _ (by assumption)).mono ?_); rintro e w2 ⟨wa, wc, rfl, hw2, hb2⟩; have HWN : Hid (∀ X, Below w2.heap.size w2 X → NodsR true 1 X (fun b => w.heap.size ≤ b) (.slice wa W.length wc) (W.map wrN)) := Lib.hid fun X hX => hw2.below (rdNod_stable _ _) hX; have hx2 : Below w.heap.size w w2 := below_from (by assumption) hb2; have hr2 : Below wr.heap.size wr w2 := hb2; have hy2 : Below w2.heap.size w2 w2 := Below.refl _ _; obtain ⟨e0, e1, e2⟩ := HAT.out _ hx2; obtain ⟨d0, d1, d2⟩ := HATb.out _ hx2; clear hw2 hb2)
         | (go_at_call 57; (with_reducible refine (HWb.out _ (by assumption)).mono ?_); rintro e w3 ⟨ba, bc, rfl, hw3, hb3⟩; have HW3 := Lib.hid hw3; have hx3 : Below w.heap.size w w3 := below_from (by assumption) hb3; have hr3 : Below wr.heap.size wr w3 := below_from (by assumption) hb3; have hy3 : Below w2.heap.size w2 w3 := below_from (by assumption) hb3; obtain ⟨e0, e1, e2⟩ := HAT.out _ hx3; obtain ⟨d0, d1, d2⟩ := HATb.out _ hx3; clear hw3 hb3)
         | (go_at_call 51; (with_reducible refine (HSh.out _ _ _ _ _ HW3.out (HWN.out _ (by assumption))).mono ?_); rintro e w4 ⟨rfl, hb4⟩; have hx4 : Below w.heap.size w w4 := below_from (by assumption) hb4; have hr4 : Below wr.heap.size wr w4 := below_from (by assumption) hb4; have hy4 : Below w2.heap.size w2 w4 := below_from (by assumption) hb4; obtain ⟨e0, e1, e2⟩ := HAT.out _ hx4; obtain ⟨d0, d1, d2⟩ := HATb.out _ hx4; clear hb4)
         | (go_at_call 52; (with_reducible refine (HPu.out _ _ _ (by first | assumption | exact below1R (by assumption) _) (HNS.out _ (by first | assumption | exact below1R (by assumption) _)) (HWN.out _ (by first | assumption | exact below1R (by assumption) _))).mono ?_); rintro e w6 ⟨va, vc, rfl, hg6, hb6⟩; have HG6 := Lib.hid hg6; have hx6 : Below w.heap.size w w6 := below_from (by first | assumption | exact below1R (by assumption) _) hb6; have hr6 : Below wr.heap.size wr w6 := below_from (by first | assumption | exact below1R (by assumption) _) hb6; clear hg6 hb6)
         | (go_at_call 59; (with_reducible refine (HBh.out _ _ _ hx6 HG6.out).mono ?_); rintro e w7 ⟨qa, qc, rfl, hq7, hb7⟩; have HQ7 := Lib.hid hq7; have HB7 := Lib.hid hb7; clear hq7 hb7)
         | (at_builtin; go_must (refine wpList_append_X _ rfl _ _ 69 69 rfl rowPt eltPt w.heap.size (.slice pa k pc) _ (xs := rowPts l k) (ys := [P]) (news := [.slice qa P.1.length qc, .int .i64 P.2]) rfl rfl (HPS0.out _ (below1R (below_from hr6 HB7.out) _)) (below1R (below_from hx6 HB7.out) _).size (src_pt (heap_new _ _ rfl) 1) (news_apart rdPt_stable (HPS0.out _ hr6) hx6.size (NewsR.one rfl ⟨_, rfl, HQ7.out.below (rdOf_stable _) ((Below.refl _ _).alloc (Nat.le_refl _) _)⟩)) hpl ?_); intro v8 w8 hR8 hB8 hG8 hO8; rw [← HPS.out] at hR8; obtain ⟨ua, un, uc, hve⟩ := slice_anyX hR8; subst hve; have HR8 := Lib.hid hR8; have HG8 := Lib.hid hG8; have HB8 := Lib.hid hB8; clear hR8 hB8 hG8 hO8))
        go_roundw
        case rel => exact ⟨k + 1, va, _, vc, ua, un, uc, hlt, by go_num, rfl, rfl, Lib.hid (by rw [HGG.out]; exact keep_nods ((HG6.out.below (rdNod_stable _ _) HB7.out).below (rdNod_stable _ _) ((Below.refl _ _).alloc (Nat.le_refl _) _)) HG8.out (fun d hd => by obtain ⟨cs, hcs⟩ := HPB.out d hd; exact ⟨cs, heap_old _ _ (heap_below (below_from hr6 HB7.out) hcs)⟩)), HR8, Lib.hid (Below.trans (below1R (below_from hx6 HB7.out) _) HB8.out), Lib.hid (ptB_of (HPS.out ▸ HR8.out))⟩
        case measure => simp [intOf]; omega
      ·have hbs : ((s : Int) == (W.length : Int)) = false := by simp; omega
       have hbn : (s == W.length) = false := by simp; omega
       have hGe : putW ns W (txtN [c.r]) s = G := by rw [hGs, if_neg (fun e => hs1 e.2.1)]
       have HPu : Hid (∀ X wa wc, Below w.heap.size w X → NodsR true 8 X (fun b => w.heap.size ≤ b) (.slice na nn nc) ns → NodsR true 1 X (fun b => w.heap.size ≤ b) (.slice wa W.length wc) (W.map wrN) → Calls Tryz.prog 52 #[.slice na nn nc, .slice wa W.length wc, .agg #[.int .i64 0, .slice none 0 0, .string ⟨(txtL [c.r]).toArray⟩, .slice none 0 0], .int .i64 s] X fun e X' => ∃ va vc, e = .returned (.slice va G.length vc) ∧ NodsR true 8 X' (fun b => w.heap.size ≤ b) (.slice va G.length vc) G ∧ Below X.heap.size X X') := Lib.hid fun X wa wc hX hn hw => by
        refine (put_all s 8 0 _ _ (.slice none 0 0) (.slice none 0 0) ns W (txtN [c.r]) X (fun b => w.heap.size ≤ b ∧ b < X.heap.size) (hn.stable (rdNod_stable _ _) (Keeps.refl _ _) (fun b hb hz => ⟨hb, hz⟩)) (hw.stable (rdNod_stable _ _) (Keeps.refl _ _) (fun b hb hz => ⟨hb, hz⟩)) (SliceR.nil _ _ _ _ _ _) (SliceR.nil _ _ _ _ _ _) (fun b hb => hb.2) (by omega) hsW hsp (by omega) (by omega)).mono ?_
        rintro e X' ⟨v', h1, h2, h3⟩
        rw [hGe] at h2
        have h2 := h2.stable (rdNod_stable _ _) (Keeps.refl _ _) (S' := fun b => w.heap.size ≤ b) (fun b hb _ => by
         have := hX.size
         rcases hb with hb | hb
         ·exact hb.1
         ·omega)
        obtain ⟨va, vc, rfl⟩ := h2.slice
        exact ⟨va, vc, h1, h2, h3⟩
       clear hGs h10 hc hG hP hW hns hj hp hs hWb hk0 hsl hspn
       clear hs1
       go_wp2_with (first
        | (go_at_call 57; (with_reducible refine (HWc.out _ (by assumption)).mono ?_); rintro e w2 ⟨wa, wc, rfl, hw2, hb2⟩; have HWN : Hid (∀ X, Below w2.heap.size w2 X → NodsR true 1 X (fun b => w.heap.size ≤ b) (.slice wa W.length wc) (W.map wrN)) := Lib.hid fun X hX => hw2.below (rdNod_stable _ _) hX; have hx2 : Below w.heap.size w w2 := below_from (by assumption) hb2; have hr2 : Below wr.heap.size wr w2 := hb2; have hy2 : Below w2.heap.size w2 w2 := Below.refl _ _; obtain ⟨e0, e1, e2⟩ := HAT.out _ hx2; obtain ⟨d0, d1, d2⟩ := HATb.out _ hx2; clear hw2 hb2)
        | (go_at_call 57; (with_reducible refine (HWb.out _ (by assumption)).mono ?_); rintro e w3 ⟨ba, bc, rfl, hw3, hb3⟩; have HW3 := Lib.hid hw3; have hx3 : Below w.heap.size w w3 := below_from (by assumption) hb3; have hr3 : Below wr.heap.size wr w3 := below_from (by assumption) hb3; have hy3 : Below w2.heap.size w2 w3 := below_from (by assumption) hb3; obtain ⟨e0, e1, e2⟩ := HAT.out _ hx3; obtain ⟨d0, d1, d2⟩ := HATb.out _ hx3; clear hw3 hb3)
        | (go_at_call 51; (with_reducible refine (HSh.out _ _ _ _ _ HW3.out (HWN.out _ (by assumption))).mono ?_); rintro e w4 ⟨rfl, hb4⟩; have hx4 : Below w.heap.size w w4 := below_from (by assumption) hb4; have hr4 : Below wr.heap.size wr w4 := below_from (by assumption) hb4; have hy4 : Below w2.heap.size w2 w4 := below_from (by assumption) hb4; obtain ⟨e0, e1, e2⟩ := HAT.out _ hx4; obtain ⟨d0, d1, d2⟩ := HATb.out _ hx4; clear hb4)
        | (go_at_call 52; (with_reducible refine (HPu.out _ _ _ (by first | assumption | exact below1R (by assumption) _) (HNS.out _ (by first | assumption | exact below1R (by assumption) _)) (HWN.out _ (by first | assumption | exact below1R (by assumption) _))).mono ?_); rintro e w6 ⟨va, vc, rfl, hg6, hb6⟩; have HG6 := Lib.hid hg6; have hx6 : Below w.heap.size w w6 := below_from (by first | assumption | exact below1R (by assumption) _) hb6; have hr6 : Below wr.heap.size wr w6 := below_from (by first | assumption | exact below1R (by assumption) _) hb6; clear hg6 hb6)
        | (go_at_call 59; (with_reducible refine (HBh.out _ _ _ hx6 HG6.out).mono ?_); rintro e w7 ⟨qa, qc, rfl, hq7, hb7⟩; have HQ7 := Lib.hid hq7; have HB7 := Lib.hid hb7; clear hq7 hb7)
        | (at_builtin; go_must (refine wpList_append_X _ rfl _ _ 69 69 rfl rowPt eltPt w.heap.size (.slice pa k pc) _ (xs := rowPts l k) (ys := [P]) (news := [.slice qa P.1.length qc, .int .i64 P.2]) rfl rfl (HPS0.out _ (below1R (below_from hr6 HB7.out) _)) (below1R (below_from hx6 HB7.out) _).size (src_pt (heap_new _ _ rfl) 1) (news_apart rdPt_stable (HPS0.out _ hr6) hx6.size (NewsR.one rfl ⟨_, rfl, HQ7.out.below (rdOf_stable _) ((Below.refl _ _).alloc (Nat.le_refl _) _)⟩)) hpl ?_); intro v8 w8 hR8 hB8 hG8 hO8; rw [← HPS.out] at hR8; obtain ⟨ua, un, uc, hve⟩ := slice_anyX hR8; subst hve; have HR8 := Lib.hid hR8; have HG8 := Lib.hid hG8; have HB8 := Lib.hid hB8; clear hR8 hB8 hG8 hO8))
       go_roundw
       case rel => exact ⟨k + 1, va, _, vc, ua, un, uc, hlt, by go_num, rfl, rfl, Lib.hid (by rw [HGG.out]; exact keep_nods ((HG6.out.below (rdNod_stable _ _) HB7.out).below (rdNod_stable _ _) ((Below.refl _ _).alloc (Nat.le_refl _) _)) HG8.out (fun d hd => by obtain ⟨cs, hcs⟩ := HPB.out d hd; exact ⟨cs, heap_old _ _ (heap_below (below_from hr6 HB7.out) hcs)⟩)), HR8, Lib.hid (Below.trans (below1R (below_from hx6 HB7.out) _) HB8.out), Lib.hid (ptB_of (HPS.out ▸ HR8.out))⟩
       case measure => simp [intOf]; omega
  ·obtain rfl : k = l.length := by omega
   rw [List.take_length] at HN
   obtain rfl : nn = (gr rowK l).length := (SliceR.len HN.out).1
   go_wp2_with fail
   go_ret2
   exact ⟨na, nc, pa, pc, rfl, HN.out, HPt.out, HBr.out⟩
end Go.Proofs.YteognfhemmogpaaGreatDoor
namespace Go.Proofs.YteognfhemmogpaaGreatDoor
open Go.RowKit
open Go.Proofs.Qw
attribute [local go_sem ↓] Go.wp_at_zero Go.wp_at_succ
theorem line_node2 (w : World) (x1 x2 x3 x4 y1 y2 y3 y4 : Value) : ∃ W1, (w.alloc (.cells #[x1, x2, x3, x4] 31)).alloc (.cells #[y1, y2, y3, y4] 35) = W1 ∧ Below w.heap.size w W1 ∧ w.heap.size + 1 < W1.heap.size ∧ W1.heap[w.heap.size]? = some (.cells #[x1, x2, x3, x4] 31) ∧ W1.heap[w.heap.size + 1]? = some (.cells #[y1, y2, y3, y4] 35) :=
 ⟨_, rfl, ((Below.refl _ _).alloc (Nat.le_refl _) _).alloc (by simp) _, by simp, heap_old _ _ (heap_new _ _ rfl), heap_new _ _ (by simp)⟩
set_option maxRecDepth 100000 in
set_option maxHeartbeats 4000000 in
theorem refNode_any (l : Lin) (la : Option Addr) (lc : Nat) (ca : Option Addr) (cc : Nat) (w w0 : World) (S : Nat → Prop) (hc : CelsR false w0 S (.slice ca l.cells.length cc) l.cells) (h0 : Below w0.heap.size w0 w) (hk0 : 0 ≤ l.kind) (hk3 : l.kind ≤ 3) (hcl : l.cells.length ≤ 20000) :
  Calls Tryz.prog 53 #[.agg #[.int .i64 l.quote, .slice la l.lists.length lc, .int .i64 l.kind, .slice ca l.cells.length cc]] w fun e w' => ∃ ka kc, e = .returned (.agg #[.int .i64 (lineN (gr rowK) l).tag, .slice none 0 0, .string ⟨#[]⟩, .slice ka (gr rowK l.cells).length kc]) ∧ NodsR true 8 w' (fun b => w.heap.size ≤ b) (.slice ka (gr rowK l.cells).length kc) (gr rowK l.cells) ∧ Below w.heap.size w w' := by
 obtain ⟨G, hG⟩ : ∃ G, gr rowK l.cells = G := ⟨_, rfl⟩
 have HR : Hid (∀ X, Below w.heap.size w X → Calls Tryz.prog 34 #[.slice ca l.cells.length cc] X fun e X' => ∃ na nc pv, e = .returned (.tuple #[.slice na G.length nc, pv]) ∧ NodsR true 8 X' (fun b => X.heap.size ≤ b) (.slice na G.length nc) G ∧ Below X.heap.size X X') := Lib.hid fun X hX => (refRow_any _ l.cells X S (hc.below (rdOf_stable _) (below_from h0 hX)) hcl).mono fun _ _ ⟨na, nc, pa, pc, h1, h2, _, h3⟩ => by
  rw [hG] at h1 h2
  exact ⟨na, nc, _, h1, h2, h3⟩
 obtain ⟨T, hT⟩ : ∃ T, (lineN (gr rowK) l).tag = T := ⟨_, rfl⟩
 have hTT : T = if l.lists ≠ [] then 9 else l.kind + 2 := by rw [← hT]; rfl
 rw [hG, hT]
 obtain ⟨W1, hW1, hB, hz, hB1, hB2⟩ := line_node2 w (.int .i64 l.quote) (.slice la l.lists.length lc) (.int .i64 l.kind) (.slice ca l.cells.length cc) (.int .i64 0) (.slice none 0 0) (.string ⟨#[]⟩) (.slice none 0 0)
 have H1 := Lib.hid hB1
 have H2 := Lib.hid hB2
 have HB := Lib.hid hB
 have HZ := Lib.hid hz
 obtain ⟨p0, f0⟩ := blk hB1
 obtain ⟨p1, f1⟩ := blk hB2
 have z0 : w.heap.size < W1.heap.size := Nat.lt_of_succ_lt hz
 have z1 : w.heap.size + 1 < W1.heap.size := hz
 have hw : IntKind.i64.wrap (2 + l.kind) = l.kind + 2 := by rw [IntKind.wrap_i64]; omega
 have hcs : (decide ((0 : Int) < (l.lists.length : Int)) = true ∧ decide (0 < l.lists.length) = true ∧ T = 9) ∨ (decide ((0 : Int) < (l.lists.length : Int)) = false ∧ decide (0 < l.lists.length) = false ∧ T = l.kind + 2) := by
  by_cases h : l.lists = []
  ·exact .inr ⟨decide_eq_false (by rw [h]; simp), decide_eq_false (by rw [h]; simp), by rw [hTT, if_neg (fun e => e h)]⟩
  ·have := List.length_pos_iff.2 h
   exact .inl ⟨decide_eq_true (by omega), decide_eq_true this, by rw [hTT, if_pos h]⟩
 generalize l.lists.length = ln at *
 clear hc h0 hB hB1 hB2 hz hTT hT hG
 rcases hcs with ⟨hd, hd2, rfl⟩ | ⟨hd, hd2, rfl⟩
 all_goals
  go_enter Tryz.func53, Tryz.ntmps53
  go_wp2_with (go_at_call 34; (with_reducible refine (HR.out _ (HB.out.alloc HB.out.size _)).mono ?_); rintro e w3 ⟨na, nc, pv, rfl, hn3, hb3⟩; have HN3 := Lib.hid hn3; have hx3 := Lib.hid (below_from (HB.out.alloc HB.out.size _) hb3); have hN3 := Lib.hid (heap_below hb3 (heap_new _ _ rfl)); have hR3 := Lib.hid (heap_below hb3 (heap_old _ _ H2.out)); obtain ⟨q1, g1⟩ := blk hN3.out; obtain ⟨q2, g2⟩ := blk hR3.out; have hz3 := alloc_le hb3.size; have hne : ¬ w.heap.size + 1 = W1.heap.size := Nat.ne_of_lt z1; have hne2 : ¬ W1.heap.size = w.heap.size + 1 := fun e => hne e.symm; clear hn3 hb3)
  refine bodyPost_ret (results_node rfl _ _ (w.heap.size + 1) _ (.slice none 0 0) (.string ⟨#[]⟩) (.slice na G.length nc) rfl (by simp [heap_set, putIn, hR3.out, hne2]; rfl)) rfl ?_
  have hN : NodsR true 8 w3 (fun b => W1.heap.size + 1 ≤ b) (.slice na G.length nc) G := HN3.out.stable (rdNod_stable _ _) (Keeps.refl _ _) (fun b h _ => alloc_le h)
  refine ⟨na, nc, rfl, hN.stable (rdNod_stable _ _) ((((((Keeps.refl _ _).set (by simp) _).set (by simp; omega) _).set (by simp; omega) _).set (by simp; omega) _).set (by simp; omega) _) (fun b h _ => by omega), ?_⟩
  exact ((((hx3.out.setCell (Nat.le_of_lt z0) _).setCell (Nat.le_succ _) _).setCell (Nat.le_succ _) _).setCell (Nat.le_succ _) _).setCell (Nat.le_succ _) _
end Go.Proofs.YteognfhemmogpaaGreatDoor
namespace Go.Proofs.YteognfhemmogpaaGreatDoor
open Go.RowKit
open Go.Proofs.Qw
attribute [local go_sem] Oper.semAt_some
def partEncY {α : Type} {r : α → α → Bool} {d : List α} (va : Option Addr) (vc k : Nat) (x : PartY r d) : Array Value := #[partV va vc k x.1]
set_option maxHeartbeats 400000 in
theorem partsL_any (va : Option Addr) (vn vc g : Nat) (b : Array Value) (w : World) : Calls Tryz.prog 48 #[.slice va vn vc, .func (.func g) #[] b] w fun e w' => e = .returned (.func (.func 70) #[] #[.pointer (some ⟨w.heap.size, 0, none⟩), .pointer (some ⟨w.heap.size + 1, 0, none⟩)]) ∧ w' = (w.alloc (.cells #[.slice va vn vc] 22)).alloc (.cells #[.func (.func g) #[] b] 60) := by
 go_enter Tryz.func48, Tryz.ntmps48
 go_wp2
 go_ret
 exact ⟨by simp, rfl⟩
set_option maxRecDepth 200000 in
set_option maxHeartbeats 4000000 in
theorem parts1_lines (n l Bl Ba base top : Nat) (Bb : Nat) (va : Option Addr) (vc : Nat) (d : List Lin) (r : Lin → Lin → Bool) (S : Nat → Prop) (J Jx : List (PartY r d) → World → Prop) (w0 W : World) (hv : LinsR w0 S (.slice va d.length vc) d) (hb0 : Below w0.heap.size w0 W)
  (hal : ∀ X, Below w0.heap.size w0 X → ∀ (x y : Lin) (la : Option Addr) (lc : Nat) (ca : Option Addr) (cc : Nat) (la2 : Option Addr) (lc2 : Nat) (ca2 : Option Addr) (cc2 : Nat), IntsR false X S (.slice la x.lists.length lc) x.lists → IntsR false X S (.slice la2 y.lists.length lc2) y.lists → x ∈ d → y ∈ d → Calls Tryz.prog 46 #[.agg #[.int .i64 x.quote, .slice la x.lists.length lc, .int .i64 x.kind, .slice ca x.cells.length cc], .agg #[.int .i64 y.quote, .slice la2 y.lists.length lc2, .int .i64 y.kind, .slice ca2 y.cells.length cc2], .pointer (some ⟨Bb, 0, none⟩)] X fun e X' => e = .returned (.bool (r x y)) ∧ Below X.heap.size X X')
  (hbase : base ≤ Bl ∧ base ≤ Ba) (htop : Bl < top ∧ Ba < top) (hD : W.heap[Bl]? = some (.cells #[.slice va d.length vc] 22)) (hA : W.heap[Ba]? = some (.cells #[.func (.func 46) #[] #[.pointer (some ⟨Bb, 0, none⟩)]] 60))
  (hlen : d.length ≤ 100000) (hJ : AbidesFrom W.heap.size J)
  (hY : ∀ (pre : List (PartY r d)) (x : PartY r d) W, J pre W → pre.length < d.length → YieldAt Fence.wide (n - 1) Tryz.prog l (partEncY va vc 4 x) W fun e W' =>
   (e = .returned (.bool true) ∧ J (pre ++ [x]) W' ∧ Kb w0.heap.size base top W W') ∨ (e = .returned (.bool false) ∧ Jx (pre ++ [x]) W'))
  (h0 : J [] W) :
  CallsIn Fence.wide n Tryz.prog 70 #[.func (.yield l) #[] #[], .pointer (some ⟨Bl, 0, none⟩), .pointer (some ⟨Ba, 0, none⟩)] W fun e W' => (∃ v, e = .returned v) ∧
   ((∃ ys : List (PartY r d), ys.map (fun y => cutP d y.1) = partsBy r d ∧ J ys W') ∨ (∃ pre, True ∧ Jx pre W')) := by
 refine callsIn_of_wp Tryz.func70 rfl trivial ?_ rfl
 simp only [Tryz.ntmps70, List.size_toArray, List.length_cons, List.length_nil, Nat.reduceAdd, Nat.reduceSub, Array.replicate_succ, Array.replicate_zero, List.push_toArray, List.append_toArray, List.nil_append, List.cons_append]
 have hwf : ∀ f, Fence.wide.fn f := fun _ => trivial
 have hwd : Fence.wide.depth = none := rfl
 obtain ⟨va', vc', hve, hvc, hvm, hx⟩ := lins_shape hv
 cases hve
 have HX := Lib.hid hx
 have HY := Lib.hid hY
 have HAL := Lib.hid hal
 have HJA := Lib.hid hJ
 have HBK := Lib.hid (And.intro hD hA)
 unfold maxLen at hvm
 clear hx hv hY hal hJ hD hA
 refine wpIn_wide.2 ?_
 go_wp2_with fail
 go_loopw [4, 5] (fun f _ wr => ∃ (i : Nat) (pre : List (PartY r d)), i ≤ d.length ∧ pre.length ≤ i ∧ f = .int .i64 i ∧ Hid ((pre.map (·.1)).map (cutP d) ++ partsBy r (d.drop i) = partsBy r d) ∧ J pre wr ∧ Below w0.heap.size w0 wr ∧ Hid (wr.heap[Bl]? = some (.cells #[.slice va d.length vc] 22) ∧ wr.heap[Ba]? = some (.cells #[.func (.func 46) #[] #[.pointer (some ⟨Bb, 0, none⟩)]] 60)) ∧ W.heap.size ≤ wr.heap.size)
  (fun f _ _ => d.length - (intOf f).toNat)
 case atStart => exact ⟨0, [], Nat.zero_le _, Nat.le_refl _, rfl, Lib.hid rfl, h0, hb0, HBK, Nat.le_refl _⟩
 case round =>
  obtain ⟨i, pre, hi, hpl, rfl, HP, hJs, hb1, HBL, hz1⟩ := hrel
  obtain ⟨p1, f1⟩ := blk HBL.out.1
  obtain ⟨p2, f2⟩ := blk HBL.out.2
  by_cases hlt : i < d.length
  ·obtain ⟨a, ha, hda⟩ := getOf d i hlt
   obtain ⟨bb, oo, la, lc, ca, cc, eva, hAt⟩ := HX.out i a ha
   subst eva
   have HAT := Lib.hid hAt
   have HAM := Lib.hid (List.mem_of_getElem? ha)
   have HDA := Lib.hid hda
   have HJS := Lib.hid hJs
   clear ha hda hAt hJs
   go_wp2_with fail
   go_loopw [5] (fun t wq => ∃ j : Nat, i + 1 ≤ j ∧ j ≤ d.length ∧ t = .int .i64 j ∧ Hid (runTo r a d j = runTo r a d (i + 1)) ∧ Hid (Below wr.heap.size wr wq)) (fun t _ => d.length - (intOf t).toNat)
   case atStart => exact ⟨i + 1, Nat.le_refl _, hlt, by go_num, Lib.hid rfl, Lib.hid (Below.refl _ _)⟩
   case round =>
    obtain ⟨j, hj1, hj2, rfl, HE, HB⟩ := hrel
    have HW0 := Lib.hid (below_from hb1 HB.out)
    obtain ⟨q1, g1⟩ := blk (heap_below HB.out HBL.out.1)
    obtain ⟨q2, g2⟩ := blk (heap_below HB.out HBL.out.2)
    obtain ⟨_, c0, c1, c2, c3, _, _⟩ := HAT.out.below HW0.out
    have hwr : Below wr.heap.size wr wr.drew := (Below.refl _ _).drew
    have i0 : (0 : Int) ≤ (i : Int) := Int.natCast_nonneg _
    have i1 : (i : Int) < (d.length : Int) := by omega
    have hne : ¬ vc = i := by omega
    clear p1 f1 p2 f2
    by_cases hlt2 : j < d.length
    ·obtain ⟨y, hy, hdy⟩ := getOf d j hlt2
     obtain ⟨b2, o2, la2, lc2, ca2, cc2, e2, hAt2⟩ := HX.out j y hy
     cases e2
     have HAT2 := Lib.hid hAt2
     have HAM2 := Lib.hid (List.mem_of_getElem? hy)
     obtain ⟨_, k0, k1, k2, k3, _, _⟩ := HAT2.out.below HW0.out
     have j0 : (0 : Int) ≤ (j : Int) := Int.natCast_nonneg _
     have j1 : (j : Int) < (d.length : Int) := by omega
     have hdj : decide ((j : Int) < (d.length : Int)) = true := by simp; omega
     have HCA : Hid (∀ X, Below wr.heap.size wr X → Calls Tryz.prog 46 #[.agg #[.int .i64 a.quote, .slice la a.lists.length lc, .int .i64 a.kind, .slice ca a.cells.length cc], .agg #[.int .i64 y.quote, .slice la2 y.lists.length lc2, .int .i64 y.kind, .slice ca2 y.cells.length cc2], .pointer (some ⟨Bb, 0, none⟩)] X fun e X' => e = .returned (.bool (r a y)) ∧ Below X.heap.size X X') := Lib.hid fun X hX => HAL.out X (below_from HW0.out hX) a y la lc ca cc la2 lc2 ca2 cc2 (HAT.out.below (below_from HW0.out hX)).listsR (HAT2.out.below (below_from HW0.out hX)).listsR HAM.out HAM2.out
     have HDY := Lib.hid hdy
     clear hy hdy hAt2
     cases hr : r a y
     all_goals
      rw [hr] at HCA
      have HRR := Lib.hid hr
      clear hr
      go_wp2_with fail
      (go_region_held3 (fun w' => w'.cell? ⟨Bl, 0, none⟩ = some (.slice (some ⟨bb, oo, none⟩) d.length vc) ∧ w'.cell? ⟨Ba, 0, none⟩ = some (.func (.func 46) #[] #[.pointer (some ⟨Bb, 0, none⟩)]) ∧ w'.cell? ⟨bb, oo + i * 4, none⟩ = some (.int .i64 a.quote) ∧ w'.cell? ⟨bb, oo + i * 4 + 1, none⟩ = some (.slice la a.lists.length lc) ∧ w'.cell? ⟨bb, oo + i * 4 + 2, none⟩ = some (.int .i64 a.kind) ∧ w'.cell? ⟨bb, oo + i * 4 + 3, none⟩ = some (.slice ca a.cells.length cc) ∧ w'.cell? ⟨bb, oo + j * 4, none⟩ = some (.int .i64 y.quote) ∧ w'.cell? ⟨bb, oo + j * 4 + 1, none⟩ = some (.slice la2 y.lists.length lc2) ∧ w'.cell? ⟨bb, oo + j * 4 + 2, none⟩ = some (.int .i64 y.kind) ∧ w'.cell? ⟨bb, oo + j * 4 + 3, none⟩ = some (.slice ca2 y.cells.length cc2)) ((first | go_keep | skip)) ((go_at_call 46; (with_reducible refine (HCA.out _ (by assumption)).mono ?_); rintro e w5 ⟨rfl, hb5⟩; have hx5 : Below wr.heap.size wr w5 := below_from (by assumption) hb5; obtain ⟨r1, s1⟩ := blk (heap_below hx5 (heap_below HB.out HBL.out.1)); obtain ⟨r2, s2⟩ := blk (heap_below hx5 (heap_below HB.out HBL.out.2)); have HW5 := below_from HW0.out hx5; obtain ⟨_, m0, m1, m2, m3, _, _⟩ := HAT.out.below HW5; obtain ⟨_, n0, n1, n2, n3, _, _⟩ := HAT2.out.below HW5)))
     ·have HE2 : Hid (runTo r a d (i + 1) = j) := Lib.hid (HE.out.symm.trans (runTo_no HDY.out HRR.out))
      have HCR := Lib.hid (cut_run HDA.out HE2.out)
      have HBx := below_from HB.out hx5
      have hYY := HY.out pre ⟨(i, j), ⟨⟨by omega, hj2⟩, HCR.out⟩⟩ w5 (abides_below HJA.out HJS.out HBx) (by omega)
      have hrow : partEncY (some ⟨bb, oo, none⟩) vc 4 (⟨(i, j), ⟨⟨by omega, hj2⟩, HCR.out⟩⟩ : PartY r d) = #[.slice (some ⟨bb, oo + i * 4, none⟩) (j - i) (vc - i)] := by
       unfold partEncY partV sliced
       simp only
       rw [if_neg (by omega)]
       simp only [Option.map_some, WideShapes.add_plain]
      rw [hrow] at hYY
      have HNX : Hid (∀ w7, J (pre ++ [⟨(i, j), ⟨⟨by omega, hj2⟩, HCR.out⟩⟩]) w7 → Kb w0.heap.size base top w5 w7 → ∃ (i' : Nat) (pre' : List (PartY r d)), i' ≤ d.length ∧ pre'.length ≤ i' ∧ i' = j ∧ Hid ((pre'.map (·.1)).map (cutP d) ++ partsBy r (d.drop i') = partsBy r d) ∧ J pre' w7 ∧ Below w0.heap.size w0 w7 ∧ Hid (w7.heap[Bl]? = some (.cells #[.slice (some ⟨bb, oo, none⟩) d.length vc] 22) ∧ w7.heap[Ba]? = some (.cells #[.func (.func 46) #[] #[.pointer (some ⟨Bb, 0, none⟩)]] 60)) ∧ W.heap.size ≤ w7.heap.size) := Lib.hid fun w7 hJ7 hk7 => by
       refine ⟨j, _, hj2, by simp; omega, rfl, Lib.hid ?_, hJ7, (below_from hb1 HBx).trans hk7.below, Lib.hid ⟨hk7.cells _ _ hbase.1 htop.1 (heap_below HBx HBL.out.1) rfl, hk7.cells _ _ hbase.2 htop.2 (heap_below HBx HBL.out.2) rfl⟩, Nat.le_trans hz1 (Nat.le_trans HBx.size hk7.below.size)⟩
       have := parts_snoc2 HP.out HDA.out
       rw [HE2.out] at this
       rw [List.map_append]
       exact this
      obtain ⟨fn, tmps, assign, body, hy, hR⟩ := hYY
      go_upto_region 5 with fail
      refine (wpIn_wide (n := n)).1 ?_
      gi_wp2_with fail
      refine hR.mono ?_
      rintro e w7 (⟨rfl, hJ7, hk7⟩ | ⟨rfl, hJx7⟩)
      ·obtain ⟨i', pre', u1, u2, u3, u4, u5, u6, u7, u8⟩ := HNX.out w7 hJ7 hk7
       gi_wp2_with fail
       go_wp2_with fail
       go_roundw
       case rel => exact ⟨i', pre', u1, u2, by rw [u3], u4, u5, u6, u7, u8⟩
       case measure => simp [intOf]; omega
      ·gi_wp2_with fail
       go_wp2_with fail
       refine bodyPost_ret (results_none rfl _ _ _) rfl ?_
       exact ⟨⟨_, rfl⟩, .inr ⟨_, trivial, hJx7⟩⟩
     ·go_wp2_with fail
      go_roundw
      case rel => exact ⟨j + 1, by omega, hlt2, by go_num, Lib.hid ((runTo_yes HDY.out HRR.out).symm.trans HE.out), Lib.hid (below_from HB.out hx5)⟩
      case measure => simp [intOf]; omega
    ·have hjd : j = d.length := by omega
     have HE2 : Hid (runTo r a d (i + 1) = j) := Lib.hid (by rw [← HE.out, hjd]; exact runTo_end)
     have hdj : decide ((j : Int) < (d.length : Int)) = false := by simp; omega
     clear hjd
     go_wp2_with fail
     go_region
     have HCR := Lib.hid (cut_run HDA.out HE2.out)
     have HBx := below_from HB.out hwr
     have hYY := HY.out pre ⟨(i, j), ⟨⟨by omega, hj2⟩, HCR.out⟩⟩ wr.drew (abides_below HJA.out HJS.out HBx) (by omega)
     have hrow : partEncY (some ⟨bb, oo, none⟩) vc 4 (⟨(i, j), ⟨⟨by omega, hj2⟩, HCR.out⟩⟩ : PartY r d) = #[.slice (some ⟨bb, oo + i * 4, none⟩) (j - i) (vc - i)] := by
      unfold partEncY partV sliced
      simp only
      rw [if_neg (by omega)]
      simp only [Option.map_some, WideShapes.add_plain]
     rw [hrow] at hYY
     have HNX : Hid (∀ w7, J (pre ++ [⟨(i, j), ⟨⟨by omega, hj2⟩, HCR.out⟩⟩]) w7 → Kb w0.heap.size base top wr.drew w7 → ∃ (i' : Nat) (pre' : List (PartY r d)), i' ≤ d.length ∧ pre'.length ≤ i' ∧ i' = j ∧ Hid ((pre'.map (·.1)).map (cutP d) ++ partsBy r (d.drop i') = partsBy r d) ∧ J pre' w7 ∧ Below w0.heap.size w0 w7 ∧ Hid (w7.heap[Bl]? = some (.cells #[.slice (some ⟨bb, oo, none⟩) d.length vc] 22) ∧ w7.heap[Ba]? = some (.cells #[.func (.func 46) #[] #[.pointer (some ⟨Bb, 0, none⟩)]] 60)) ∧ W.heap.size ≤ w7.heap.size) := Lib.hid fun w7 hJ7 hk7 => by
      refine ⟨j, _, hj2, by simp; omega, rfl, Lib.hid ?_, hJ7, (below_from hb1 HBx).trans hk7.below, Lib.hid ⟨hk7.cells _ _ hbase.1 htop.1 (heap_below HBx HBL.out.1) rfl, hk7.cells _ _ hbase.2 htop.2 (heap_below HBx HBL.out.2) rfl⟩, Nat.le_trans hz1 (Nat.le_trans HBx.size hk7.below.size)⟩
      have := parts_snoc2 HP.out HDA.out
      rw [HE2.out] at this
      rw [List.map_append]
      exact this
     obtain ⟨fn, tmps, assign, body, hy, hR⟩ := hYY
     go_upto_region 5 with fail
     refine (wpIn_wide (n := n)).1 ?_
     gi_wp2_with fail
     refine hR.mono ?_
     rintro e w7 (⟨rfl, hJ7, hk7⟩ | ⟨rfl, hJx7⟩)
     ·obtain ⟨i', pre', u1, u2, u3, u4, u5, u6, u7, u8⟩ := HNX.out w7 hJ7 hk7
      gi_wp2_with fail
      go_wp2_with fail
      go_roundw
      case rel => exact ⟨i', pre', u1, u2, by rw [u3], u4, u5, u6, u7, u8⟩
      case measure => simp [intOf]; omega
     ·gi_wp2_with fail
      go_wp2_with fail
      refine bodyPost_ret (results_none rfl _ _ _) rfl ?_
      exact ⟨⟨_, rfl⟩, .inr ⟨_, trivial, hJx7⟩⟩
  ·obtain rfl : i = d.length := by omega
   have HAll := Lib.hid (parts_all (r := r) HP.out)
   go_wp2_with fail
   go_end0
   exact ⟨⟨_, rfl⟩, .inl ⟨pre, by have h := HAll.out; rw [List.map_map] at h; exact h, hJs⟩⟩
end Go.Proofs.YteognfhemmogpaaGreatDoor
namespace Go.Proofs.YteognfhemmogpaaGreatDoor
open Go.RowKit
open Go.Proofs.Qw
attribute [local go_sem ↓] Go.wp_at_zero Go.wp_at_succ
set_option maxRecDepth 100000 in
set_option maxHeartbeats 2000000 in
theorem renStep_any (l : Lin) (a : Value) (ca : Option Addr) (cn cc lv : Nat) (w w0 : World) (S : Nat → Prop) (ha : IntsR false w0 S a l.lists) (h0 : Below w0.heap.size w0 w) (hn : l.lists.length ≤ 1000000) :
  Calls Tryz.prog 47 #[linV l a (.slice ca cn cc), .int .i64 lv] w fun e w' => e = .returned (.int .i64 (stepL lv l)) ∧ Below w.heap.size w w' := by
 have HC : Hid (∀ X, Below w.heap.size w X → Calls Tryz.prog 10 #[linV l a (.slice ca cn cc)] X fun e w' => ∃ oa oc, e = .returned (.slice oa (wayL l).length oc) ∧ IntsR true w' (fun b => X.heap.size ≤ b) (.slice oa (wayL l).length oc) (wayL l) ∧ Below X.heap.size X w') := Lib.hid fun X hX => (way_any l a ca cn cc X w0 S ha (below_from h0 hX) hn).mono fun _ _ ⟨v', h1, h2, h3⟩ => by
  obtain ⟨oa, oc, rfl⟩ := h2.slice
  exact ⟨oa, oc, h1, h2, h3⟩
 obtain ⟨la, lc, rfl⟩ := ha.slice
 obtain ⟨W1, hW1⟩ : ∃ W1, w.alloc (.cells #[.int .i64 l.quote, .slice la l.lists.length lc, .int .i64 l.kind, .slice ca cn cc] 31) = W1 := ⟨_, rfl⟩
 have hb1 : Below w.heap.size w W1 := hW1 ▸ (Below.refl _ _).alloc (Nat.le_refl _) _
 have hB1 : W1.heap[w.heap.size]? = some (.cells #[.int .i64 l.quote, .slice la l.lists.length lc, .int .i64 l.kind, .slice ca cn cc] 31) := hW1 ▸ heap_new _ _ rfl
 obtain ⟨p1, f1⟩ := blk hB1
 have HB1 := Lib.hid hb1
 have HE : Hid (stepL lv l = (wayL l).getD lv 0) := Lib.hid rfl
 have hwl := way_most l
 generalize stepL lv l = z at *
 generalize wayL l = ws at *
 clear ha h0 hB1 hb1
 unfold linV at *
 by_cases hlt : lv < ws.length
 ·have hd : decide ((lv : Int) < (ws.length : Int)) = true := by simp; omega
  have i0 : (0 : Int) ≤ (lv : Int) := Int.natCast_nonneg _
  have i1 : (lv : Int) < (ws.length : Int) := by omega
  have HLT := Lib.hid hlt
  clear hlt
  go_enter Tryz.func47, Tryz.ntmps47
  go_wp2_with (go_at_call 10; refine (HC.out _ HB1.out).mono ?_; rintro e w2 ⟨oa, oc, rfl, hv2, hb2⟩; obtain ⟨a', c', e', _, _, hx⟩ := ints_shape (hv2.read (fun _ _ g => g)); cases e'; obtain ⟨y, hy, _⟩ := getOf ws lv HLT.out; obtain ⟨b, o, rfl, hz, c0⟩ := hx lv y hy; have HY := Lib.hid hy; clear hy hx hv2)
  go_ret
  exact ⟨by rw [HE.out, List.getD_eq_getElem?_getD, HY.out]; rfl, below_from HB1.out hb2⟩
 ·have hd : decide ((lv : Int) < (ws.length : Int)) = false := by simp; omega
  have HLT := Lib.hid hlt
  clear hlt
  go_enter Tryz.func47, Tryz.ntmps47
  go_wp2_with (go_at_call 10; refine (HC.out _ HB1.out).mono ?_; rintro e w2 ⟨oa, oc, rfl, hv2, hb2⟩; clear hv2)
  go_ret
  exact ⟨by rw [HE.out, List.getD_eq_getElem?_getD, List.getElem?_eq_none (by have := HLT.out; omega)]; rfl, below_from HB1.out hb2⟩
end Go.Proofs.YteognfhemmogpaaGreatDoor
namespace Go.Proofs.YteognfhemmogpaaGreatDoor
open Go.RowKit
open Go.Proofs.Qw
attribute [local go_sem ↓] Go.wp_at_zero Go.wp_at_succ
theorem two_rows4 (w : World) (x1 x2 x3 x4 y1 y2 y3 y4 : Value) (t : TypeId) : ∃ W1, (w.alloc (.cells #[x1, x2, x3, x4] t)).alloc (.cells #[y1, y2, y3, y4] t) = W1 ∧ Below w.heap.size w W1 ∧ w.heap.size + 2 = W1.heap.size ∧ W1.heap[w.heap.size]? = some (.cells #[x1, x2, x3, x4] t) ∧ W1.heap[w.heap.size + 1]? = some (.cells #[y1, y2, y3, y4] t) :=
 ⟨_, rfl, ((Below.refl _ _).alloc (Nat.le_refl _) _).alloc (by simp) _, by simp, heap_old _ _ (heap_new _ _ rfl), heap_new _ _ (by simp)⟩
set_option maxRecDepth 100000 in
set_option maxHeartbeats 4000000 in
theorem al_lines (x y : Lin) (la : Option Addr) (lc : Nat) (ca : Option Addr) (cc : Nat) (la2 : Option Addr) (lc2 : Nat) (ca2 : Option Addr) (cc2 : Nat) (Bb lv : Nat) (w : World) (S : Nat → Prop) (h1 : IntsR false w S (.slice la x.lists.length lc) x.lists) (h2 : IntsR false w S (.slice la2 y.lists.length lc2) y.lists) (hb : w.heap[Bb]? = some (.cells #[.int .i64 lv] 3)) (hn1 : x.lists.length ≤ 1000000) (hn2 : y.lists.length ≤ 1000000) :
  Calls Tryz.prog 46 #[.agg #[.int .i64 x.quote, .slice la x.lists.length lc, .int .i64 x.kind, .slice ca x.cells.length cc], .agg #[.int .i64 y.quote, .slice la2 y.lists.length lc2, .int .i64 y.kind, .slice ca2 y.cells.length cc2], .pointer (some ⟨Bb, 0, none⟩)] w fun e w' => e = .returned (.bool (stepR lv x y)) ∧ Below w.heap.size w w' := by
 obtain ⟨W1, hW1, hB, hz, hB0, hB1⟩ := two_rows4 w (.int .i64 x.quote) (.slice la x.lists.length lc) (.int .i64 x.kind) (.slice ca x.cells.length cc) (.int .i64 y.quote) (.slice la2 y.lists.length lc2) (.int .i64 y.kind) (.slice ca2 y.cells.length cc2) 31
 have CX : Hid (∀ W, Below W1.heap.size W1 W → Calls Tryz.prog 47 #[.agg #[.int .i64 x.quote, .slice la x.lists.length lc, .int .i64 x.kind, .slice ca x.cells.length cc], .int .i64 lv] W fun e w' => e = .returned (.int .i64 (stepL lv x)) ∧ Below W.heap.size W w') := Lib.hid fun W hW => renStep_any x _ ca _ cc lv W w S h1 (below_from hB hW) hn1
 have CY : Hid (∀ W, Below W1.heap.size W1 W → Calls Tryz.prog 47 #[.agg #[.int .i64 y.quote, .slice la2 y.lists.length lc2, .int .i64 y.kind, .slice ca2 y.cells.length cc2], .int .i64 lv] W fun e w' => e = .returned (.int .i64 (stepL lv y)) ∧ Below W.heap.size W w') := Lib.hid fun W hW => renStep_any y _ ca2 _ cc2 lv W w S h2 (below_from hB hW) hn2
 have HE : Hid (stepR lv x y = (decide (stepL lv x ≠ 0) && decide (stepL lv x = stepL lv y))) := Lib.hid rfl
 have H0 := Lib.hid hB0
 have H1 := Lib.hid hB1
 have HL := Lib.hid (heap_below hB hb)
 have HB := Lib.hid hB
 have hxd : Below W1.heap.size W1 W1.drew := (Below.refl _ _).drew
 obtain ⟨p0, f0⟩ := blk hB0
 obtain ⟨p1, f1⟩ := blk hB1
 obtain ⟨p2, f2⟩ := blk HL.out
 generalize stepR lv x y = r at *
 generalize stepL lv x = sx at *
 generalize stepL lv y = sy at *
 clear h1 h2 hb hz hB0 hB1 hB
 by_cases hs : sx = 0
 ·have hq : (sx != 0) = false := by simp [hs]
  have HS : Hid (r = false) := Lib.hid (by rw [HE.out]; simp [hs])
  have HA : Hid (∀ X, Below W1.heap.size W1 X → (fun w' : World => w'.cell? ⟨w.heap.size, 0, none⟩ = some (.int .i64 x.quote) ∧ w'.cell? ⟨w.heap.size, 1, none⟩ = some (.slice la x.lists.length lc) ∧ w'.cell? ⟨w.heap.size, 2, none⟩ = some (.int .i64 x.kind) ∧ w'.cell? ⟨w.heap.size, 3, none⟩ = some (.slice ca x.cells.length cc) ∧ w'.cell? ⟨Bb, 0, none⟩ = some (.int .i64 lv)) X) := Lib.hid fun X hX => by
   obtain ⟨q0, _⟩ := blk (heap_below hX H0.out)
   obtain ⟨q2, _⟩ := blk (heap_below hX HL.out)
   exact ⟨by rw [q0 0]; rfl, by rw [q0 1]; rfl, by rw [q0 2]; rfl, by rw [q0 3]; rfl, by rw [q2 0]; rfl⟩
  clear hs
  go_enter Tryz.func46, Tryz.ntmps46
  go_wp2_with fail
  refine wp_region_T (fun w' => w'.cell? ⟨w.heap.size, 0, none⟩ = some (.int .i64 x.quote) ∧ w'.cell? ⟨w.heap.size, 1, none⟩ = some (.slice la x.lists.length lc) ∧ w'.cell? ⟨w.heap.size, 2, none⟩ = some (.int .i64 x.kind) ∧ w'.cell? ⟨w.heap.size, 3, none⟩ = some (.slice ca x.cells.length cc) ∧ w'.cell? ⟨Bb, 0, none⟩ = some (.int .i64 lv)) (fun _ => True) 99 (by kernel_rfl) ?_
  refine anyT_takeA (i := 0) (v := ?_) (by simp only [qA, qZ]; rfl) (by kernel_rfl) (by kernel_rfl) (by kernel_rfl) (by kernel_rfl) (fun _ _ _ h => h) (Or.inl ⟨by rfl, ?_⟩) (HA.out _ hxd) (Or.inr trivial) ?_
  rotate_left 1
  ·intro w hSw; (try dsimp only at hSw); go_simp; (first | done | with_reducible rfl)
  try simp only [Act.put, qI, qX, qY]
  refine anyT_takeA (i := 1) (v := ?_) (by simp only [qA, qS, qZ]; rfl) (by kernel_rfl) (by kernel_rfl) (by kernel_rfl) (by kernel_rfl) (fun _ _ _ h => h) (Or.inl ⟨by rfl, ?_⟩) (HA.out _ hxd) (Or.inr trivial) ?_
  rotate_left 1
  ·intro w hSw; (try dsimp only at hSw); go_simp; (first | done | with_reducible rfl)
  try simp only [Act.put, qI, qX, qY]
  refine anyT_ready (rs := [2]) (by kernel_rfl) (by simp) ?_
  refine AllReadyT.cons (by simp only [qA, qS, qZ]; rfl) (fun K hK => ?_) AllReadyT.nil
  go_simp
  refine (CX.out _ hxd).mono ?_
  rintro e w5 ⟨rfl, hb5⟩
  have hx5 : Below W1.heap.size W1 w5 := below_from hxd hb5
  refine hK.out _ _ (HA.out _ hx5) (Or.inr trivial) ?_
  clear hK K
  try simp only [Act.put, qI, qX, qY]
  refine anyT_takeA (i := 3) (v := ?_) (by simp only [qA, qS, qZ]; rfl) (by kernel_rfl) (by kernel_rfl) (by kernel_rfl) (by kernel_rfl) (fun _ _ _ h => h) (Or.inl ⟨by rfl, ?_⟩) (HA.out _ hx5) (Or.inr trivial) ?_
  rotate_left 1
  ·intro w hSw; (try dsimp only at hSw); go_simp; (first | done | with_reducible rfl)
  try simp only [Act.put, qI, qX, qY]
  refine anyT_takeA (i := 4) (v := ?_) (by simp only [qA, qS, qZ]; rfl) (by kernel_rfl) (by kernel_rfl) (by kernel_rfl) (by kernel_rfl) (fun _ _ _ h => h) (Or.inl ⟨by rfl, ?_⟩) (HA.out _ hx5) (Or.inr trivial) ?_
  rotate_left 1
  ·intro w hSw; (try dsimp only at hSw); go_simp; (first | done | with_reducible rfl)
  try simp only [Act.put, qI, qX, qY]
  refine anyT_takeA (i := 5) (v := undef) (by simp only [qA, qS, qZ]; rfl) (by kernel_rfl) (by kernel_rfl) (by kernel_rfl) (by kernel_rfl) (fun _ _ _ h => h) (Or.inr ⟨by rfl, rfl⟩) (HA.out _ hx5) (Or.inr trivial) ?_
  try simp only [Act.put, qI, qX, qY]
  refine anyT_takeA (i := 6) (v := undef) (by simp only [qA, qS, qZ]; rfl) (by kernel_rfl) (by kernel_rfl) (by kernel_rfl) (by kernel_rfl) (fun _ _ _ h => h) (Or.inr ⟨by rfl, rfl⟩) (HA.out _ hx5) (Or.inr trivial) ?_
  try simp only [Act.put, qI, qX, qY]
  refine anyT_takeA (i := 7) (v := undef) (by simp only [qA, qS, qZ]; rfl) (by kernel_rfl) (by kernel_rfl) (by kernel_rfl) (by kernel_rfl) (fun _ _ _ h => h) (Or.inr ⟨by rfl, rfl⟩) (HA.out _ hx5) (Or.inr trivial) ?_
  try simp only [Act.put, qI, qX, qY]
  refine anyT_takeA (i := 8) (v := undef) (by simp only [qA, qS, qZ]; rfl) (by kernel_rfl) (by kernel_rfl) (by kernel_rfl) (by kernel_rfl) (fun _ _ _ h => h) (Or.inr ⟨by rfl, rfl⟩) (HA.out _ hx5) (Or.inr trivial) ?_
  try simp only [Act.put, qI, qX, qY]
  refine anyT_takeA (i := 9) (v := undef) (by simp only [qA, qS, qZ]; rfl) (by kernel_rfl) (by kernel_rfl) (by kernel_rfl) (by kernel_rfl) (fun _ _ _ h => h) (Or.inr ⟨by rfl, rfl⟩) (HA.out _ hx5) (Or.inr trivial) ?_
  try simp only [Act.put, qI, qX, qY]
  refine anyT_takeA (i := 10) (v := undef) (by simp only [qA, qS, qZ]; rfl) (by kernel_rfl) (by kernel_rfl) (by kernel_rfl) (by kernel_rfl) (fun _ _ _ h => h) (Or.inr ⟨by rfl, rfl⟩) (HA.out _ hx5) (Or.inr trivial) ?_
  try simp only [Act.put, qI, qX, qY]
  refine anyT_takeA (i := 11) (v := undef) (by simp only [qA, qS, qZ]; rfl) (by kernel_rfl) (by kernel_rfl) (by kernel_rfl) (by kernel_rfl) (fun _ _ _ h => h) (Or.inr ⟨by rfl, rfl⟩) (HA.out _ hx5) (Or.inr trivial) ?_
  try simp only [Act.put, qI, qX, qY]
  refine anyT_takeA (i := 12) (v := ?_) (by simp only [qA, qS, qZ]; rfl) (by kernel_rfl) (by kernel_rfl) (by kernel_rfl) (by kernel_rfl) (fun _ _ _ h => h) (Or.inl ⟨by rfl, ?_⟩) (HA.out _ hx5) (Or.inr trivial) ?_
  rotate_left 1
  ·intro w hSw; (try dsimp only at hSw); go_simp; (first | done | with_reducible rfl)
  try simp only [Act.put, qI, qX, qY]
  refine anyT_takeA (i := 13) (v := ?_) (by simp only [qA, qS, qZ]; rfl) (by kernel_rfl) (by kernel_rfl) (by kernel_rfl) (by kernel_rfl) (fun _ _ _ h => h) (Or.inl ⟨by rfl, ?_⟩) (HA.out _ hx5) (Or.inr trivial) ?_
  rotate_left 1
  ·intro w hSw; (try dsimp only at hSw); go_simp; (first | done | with_reducible rfl)
  try simp only [Act.put, qI, qX, qY]
  refine anyT_done (by kernel_rfl) ?_ _
  refine NoPanic.normal ?_
  go_wp2_with fail
  go_ret
  exact ⟨by simp [HS.out], below_from HB.out hx5⟩
 ·have hq : (sx != 0) = true := by simp [hs]
  have HS : Hid (r = (sx == sy)) := Lib.hid (by rw [HE.out, decide_eq_true (p := sx ≠ 0) hs]; by_cases e : sx = sy <;> simp [e])
  rw [show r = (sx == sy) from HS.out]
  clear hs
  go_enter Tryz.func46, Tryz.ntmps46
  go_wp2_with fail
  go_region_held3 (fun w' => w'.cell? ⟨w.heap.size, 0, none⟩ = some (.int .i64 x.quote) ∧ w'.cell? ⟨w.heap.size, 1, none⟩ = some (.slice la x.lists.length lc) ∧ w'.cell? ⟨w.heap.size, 2, none⟩ = some (.int .i64 x.kind) ∧ w'.cell? ⟨w.heap.size, 3, none⟩ = some (.slice ca x.cells.length cc) ∧ w'.cell? ⟨w.heap.size + 1, 0, none⟩ = some (.int .i64 y.quote) ∧ w'.cell? ⟨w.heap.size + 1, 1, none⟩ = some (.slice la2 y.lists.length lc2) ∧ w'.cell? ⟨w.heap.size + 1, 2, none⟩ = some (.int .i64 y.kind) ∧ w'.cell? ⟨w.heap.size + 1, 3, none⟩ = some (.slice ca2 y.cells.length cc2) ∧ w'.cell? ⟨Bb, 0, none⟩ = some (.int .i64 lv)) (go_keep)
   ((go_at_call 47; (first
    | ((with_reducible refine (CX.out _ (by assumption)).mono ?_); rintro e w5 ⟨rfl, hb5⟩; have hx5 : Below W1.heap.size W1 w5 := below_from (by assumption) hb5; obtain ⟨r0, s0⟩ := blk (heap_below hx5 H0.out); obtain ⟨r1, s1⟩ := blk (heap_below hx5 H1.out); obtain ⟨r2, s2⟩ := blk (heap_below hx5 HL.out))
    | ((with_reducible refine (CY.out _ (by assumption)).mono ?_); rintro e w7 ⟨rfl, hb7⟩; have hx7 : Below W1.heap.size W1 w7 := below_from (by assumption) hb7; obtain ⟨r0, s0⟩ := blk (heap_below hx7 H0.out); obtain ⟨r1, s1⟩ := blk (heap_below hx7 H1.out); obtain ⟨r2, s2⟩ := blk (heap_below hx7 HL.out)))))
  all_goals
   go_wp2_with fail
   go_ret
   exact ⟨by simp, below_from HB.out hx7⟩
end Go.Proofs.YteognfhemmogpaaGreatDoor
