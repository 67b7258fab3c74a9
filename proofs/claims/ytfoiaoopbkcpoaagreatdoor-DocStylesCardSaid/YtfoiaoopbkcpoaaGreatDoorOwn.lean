/- The walks of slices.Clone, lines.Own, doc.Own; the law's spoil. -/
import Derived.Test.YtfoiaoopbkcpoaaGreatDoorBase
import Derived.Deep.RegionHeld3
import Derived.Deep.DrawnRows
namespace Go.Proofs.YtfoiaoopbkcpoaaGreatDoor
open Go.RowKit
open Go.Proofs.Qw

theorem rowInt : RowT Tryz.prog 53 3 1 := RowT.mk' (y := 8) Tryz.underlying53 (by kernel_rfl) (by decide) (z := .int .i64 0) (by decide)
theorem rowCell : RowT Tryz.prog 46 58 3 := RowT.mk' (y := 32) Tryz.underlying46 (by kernel_rfl) (by decide) (z := .agg #[.int .i32 0, .int .i64 0, .string ⟨#[]⟩]) (by rfl)
theorem rowLine : RowT Tryz.prog 22 55 4 := RowT.mk' (y := 64) Tryz.underlying22 (by kernel_rfl) (by decide) (z := .agg #[.int .i64 0, .slice none 0 0, .int .i64 0, .slice none 0 0]) (by rfl)
theorem eltInt : Elt 3 1 (rdOf encInt) := elt_of _ (by decide) (fun _ => rfl) (fun x u hu => by simp [encInt] at hu; subst hu; rfl)
theorem eltCell : Elt 58 3 (rdOf encCel) := elt_of _ (by decide) (fun _ => rfl) (fun x u hu => by simp [encCel] at hu; rcases hu with rfl | rfl | rfl <;> rfl)
theorem eltLine : Elt 55 4 (rdLin true) :=
  ⟨by decide, fun _ _ _ _ ⟨_, _, h, _⟩ => by rw [h]; rfl, fun _ _ _ _ ⟨a, b, h, h2, h3⟩ u hu => by
    obtain ⟨_, _, rfl⟩ := h2.slice
    obtain ⟨_, _, rfl⟩ := h3.slice
    subst h
    simp at hu
    rcases hu with rfl | rfl | rfl | rfl <;> rfl,
  ⟨fun w w' S S' vs x ⟨a, b, h, h2, h3⟩ hz hk hS => ⟨a, b, h, SliceR.tagged (tagged_of _ _) (by decide) h2 hz hk hS, SliceR.tagged (tagged_of _ _) (by decide) h3 hz hk hS⟩⟩, rdLin_stable true⟩

theorem srcInt {own : Bool} {w : World} {S : Nat → Prop} {v : Value} {xs : List Int} (h : SliceR 3 1 (rdOf encInt) own w S v xs) :
    ∃ news : List Value, Src Tryz.prog 1 53 v xs.length news w ∧ NewsR 1 (rdOf encInt) w S news xs := SliceR.src rowInt eltInt.pos eltInt.ones h
theorem flatInt (w : World) (S : Nat → Prop) (xs : List Int) : NewsR 1 (rdOf encInt) w S (xs.flatMap encInt) xs := newsR_flat (enc := encInt) (fun _ => rfl) w S xs
set_option maxRecDepth 100000 in
set_option maxHeartbeats 1000000 in
theorem cloneInt_any (v : Value) (d : List Int) (own : Bool) (w w0 : World) (S : Nat → Prop) (h : SliceR 3 1 (rdOf encInt) own w0 S v d) (h0 : Below w0.heap.size w0 w) (hs : d.length ≤ 1000000) :
    Calls Tryz.prog 105 #[v] w fun e w' => ∃ v', e = .returned v' ∧ SliceR 3 1 (rdOf encInt) true w' (fun b => w.heap.size ≤ b) v' d ∧ Below w.heap.size w w' := by
  have hw : SliceR 3 1 (rdOf encInt) own (w.alloc (.cells #[] 3)) S v d := SliceR.below (rdOf_stable _) h (below_from h0 ((Below.refl _ _).alloc (Nat.le_refl _) _))
  obtain ⟨news, H1, H2⟩ := srcInt hw
  have HS := Lib.hid H1
  have HN := Lib.hid H2
  clear H1 H2
  obtain ⟨a, c, rfl, hc, hm, hx⟩ := hw
  cases a with
  | none =>
    have hd : d = [] := by
      rcases hx with hx | ⟨_, _, e, _⟩
      · exact hx.1
      · cases e
    have HD := Lib.hid hd
    have hq := Lib.run_eql_slice_nil (P := Tryz.prog) w 53 3 none d.length c 0 0 Tryz.underlying53
    clear hx h hd
    generalize d.length = n at *
    go_enter Tryz.func105, Tryz.ntmps105
    go_wp2_with fail
    go_ret
    rw [HD.out]
    exact ⟨_, rfl, SliceR.nil _ _ _ _ _ _, Below.refl _ _⟩
  | some a =>
    have hq := Lib.run_eql_slice_nil (P := Tryz.prog) w 53 3 (some a) d.length c 0 0 Tryz.underlying53
    clear hx h
    generalize hn : d.length = n at *
    have HL := Lib.hid hn
    clear hn
    go_enter Tryz.func105, Tryz.ntmps105
    go_wp2_with (at_builtin; refine wpList_append_R _ rfl _ _ 53 53 rfl rowInt eltInt w.heap.size _ _ (xs := []) (ys := d) (news := news) rfl rfl (SliceR.empty _ _ _ _ _ _ _) (by simp) (HL.out ▸ HS.out) HN.out (by have := HL.out; simp; omega) ?_; intro v' w1 hR hB _ _; have HR := Lib.hid hR; have HB := Lib.hid hB; clear hR hB)
    go_ret
    exact ⟨_, rfl, HR.out, ((Below.refl _ _).alloc (Nat.le_refl _) _).trans HB.out⟩
theorem srcCell {own : Bool} {w : World} {S : Nat → Prop} {v : Value} {xs : List Cel} (h : SliceR 58 3 (rdOf encCel) own w S v xs) :
    ∃ news : List Value, Src Tryz.prog 3 46 v xs.length news w ∧ NewsR 3 (rdOf encCel) w S news xs := SliceR.src rowCell eltCell.pos eltCell.ones h
theorem flatCell (w : World) (S : Nat → Prop) (xs : List Cel) : NewsR 3 (rdOf encCel) w S (xs.flatMap encCel) xs := newsR_flat (enc := encCel) (fun _ => rfl) w S xs
set_option maxRecDepth 100000 in
set_option maxHeartbeats 1000000 in
theorem cloneCell_any (v : Value) (d : List Cel) (own : Bool) (w w0 : World) (S : Nat → Prop) (h : SliceR 58 3 (rdOf encCel) own w0 S v d) (h0 : Below w0.heap.size w0 w) (hs : d.length ≤ 1000000) :
    Calls Tryz.prog 106 #[v] w fun e w' => ∃ v', e = .returned v' ∧ SliceR 58 3 (rdOf encCel) true w' (fun b => w.heap.size ≤ b) v' d ∧ Below w.heap.size w w' := by
  have hw : SliceR 58 3 (rdOf encCel) own (w.alloc (.cells #[] 58)) S v d := SliceR.below (rdOf_stable _) h (below_from h0 ((Below.refl _ _).alloc (Nat.le_refl _) _))
  obtain ⟨news, H1, H2⟩ := srcCell hw
  have HS := Lib.hid H1
  have HN := Lib.hid H2
  clear H1 H2
  obtain ⟨a, c, rfl, hc, hm, hx⟩ := hw
  cases a with
  | none =>
    have hd : d = [] := by
      rcases hx with hx | ⟨_, _, e, _⟩
      · exact hx.1
      · cases e
    have HD := Lib.hid hd
    have hq := Lib.run_eql_slice_nil (P := Tryz.prog) w 46 58 none d.length c 0 0 Tryz.underlying46
    clear hx h hd
    generalize d.length = n at *
    go_enter Tryz.func106, Tryz.ntmps106
    go_wp2_with fail
    go_ret
    rw [HD.out]
    exact ⟨_, rfl, SliceR.nil _ _ _ _ _ _, Below.refl _ _⟩
  | some a =>
    have hq := Lib.run_eql_slice_nil (P := Tryz.prog) w 46 58 (some a) d.length c 0 0 Tryz.underlying46
    clear hx h
    generalize hn : d.length = n at *
    have HL := Lib.hid hn
    clear hn
    go_enter Tryz.func106, Tryz.ntmps106
    go_wp2_with (at_builtin; refine wpList_append_R _ rfl _ _ 46 46 rfl rowCell eltCell w.heap.size _ _ (xs := []) (ys := d) (news := news) rfl rfl (SliceR.empty _ _ _ _ _ _ _) (by simp) (HL.out ▸ HS.out) HN.out (by have := HL.out; simp; omega) ?_; intro v' w1 hR hB _ _; have HR := Lib.hid hR; have HB := Lib.hid hB; clear hR hB)
    go_ret
    exact ⟨_, rfl, HR.out, ((Below.refl _ _).alloc (Nat.le_refl _) _).trans HB.out⟩
end Go.Proofs.YtfoiaoopbkcpoaaGreatDoor
namespace Go.Proofs.YtfoiaoopbkcpoaaGreatDoor
open Go.RowKit
open Go.Proofs.Qw
attribute [local go_sem ↓] Go.wp_at_zero Go.wp_at_succ

/-- A line as a value: its slices as they lie. -/
abbrev linV (l : Lin) (a b : Value) : Value := .agg #[.int .i64 l.quote, a, .int .i64 l.kind, b]

theorem results_line {fn : Func} {p : Tmp} (h : fn.results = #[.cell p 55]) (tmps : Array Value) (w : World) (B : Nat) (x y z u : Value) (hp : tmps.getD p undef = .pointer (some ⟨B, 0, none⟩)) (hg : w.heap[B]? = some (.cells #[x, y, z, u] 55)) :
    (results fn tmps).run Tryz.prog w = .ok (.agg #[x, y, z, u]) w :=
  results_cell_row h tmps w B _ _ _ _ hp hg Tryz.underlying55 rfl (by kernel_rfl)
set_option maxRecDepth 100000 in
set_option maxHeartbeats 2000000 in
theorem lineOwn_any (l : Lin) (a b : Value) (o1 o2 : Bool) (w w0 : World) (S : Nat → Prop) (hL : IntsR o1 w0 S a l.lists) (hC : CelsR o2 w0 S b l.cells) (h0 : Below w0.heap.size w0 w) (hs : l.lists.length ≤ 1000000 ∧ l.cells.length ≤ 1000000) :
    Calls Tryz.prog 68 #[linV l a b] w fun e w' => ∃ a' b', e = .returned (linV l a' b') ∧ IntsR true w' (fun b => w.heap.size ≤ b) a' l.lists ∧ CelsR true w' (fun b => w.heap.size ≤ b) b' l.cells ∧ Below w.heap.size w w' := by
  have HC1 : Hid (∀ W, Below w0.heap.size w0 W → Calls Tryz.prog 105 #[a] W fun e w' => ∃ v', e = .returned v' ∧ IntsR true w' (fun b => W.heap.size ≤ b) v' l.lists ∧ Below W.heap.size W w') := Lib.hid fun W hW => cloneInt_any a l.lists o1 W w0 S hL hW hs.1
  have HC2 : Hid (∀ W, Below w0.heap.size w0 W → Calls Tryz.prog 106 #[b] W fun e w' => ∃ v', e = .returned v' ∧ CelsR true w' (fun b => W.heap.size ≤ b) v' l.cells ∧ Below W.heap.size W w') := Lib.hid fun W hW => cloneCell_any b l.cells o2 W w0 S hC hW hs.2
  obtain ⟨la, lc, rfl⟩ := hL.slice
  obtain ⟨ca, cc, rfl⟩ := hC.slice
  clear hL hC
  generalize l.lists.length = n at *
  generalize l.cells.length = m at *
  unfold linV
  obtain ⟨W1, hW1⟩ : ∃ W1, (w.alloc (.cells #[.int .i64 l.quote, .slice la n lc, .int .i64 l.kind, .slice ca m cc] 55)).alloc (.cells #[.int .i64 0, .slice none 0 0, .int .i64 0, .slice none 0 0] 55) = W1 := ⟨_, rfl⟩
  have hB : Below w.heap.size w W1 := hW1 ▸ ((Below.refl _ _).alloc (Nat.le_refl _) _).alloc (by simp) _
  have hW := below_from h0 hB
  have z0 : w.heap.size < W1.heap.size := by rw [← hW1]; simp; omega
  have z1 : w.heap.size + 1 < W1.heap.size := by rw [← hW1]; simp
  have hA0 : W1.heap[w.heap.size]? = some (.cells #[.int .i64 l.quote, .slice la n lc, .int .i64 l.kind, .slice ca m cc] 55) := hW1 ▸ heap_old _ _ (heap_new _ _ rfl)
  have hA1 : W1.heap[w.heap.size + 1]? = some (.cells #[.int .i64 0, .slice none 0 0, .int .i64 0, .slice none 0 0] 55) := hW1 ▸ heap_new _ _ (by simp)
  obtain ⟨p0, f0⟩ := blk hA0
  obtain ⟨p1, f1⟩ := blk hA1
  go_enter Tryz.func68, Tryz.ntmps68
  go_wp2_with fail
  go_region_with
    (first | (go_at_call 105; refine (HC1.out _ (by first | exact hW | exact hW.drew)).mono ?_; rintro e w2 ⟨v1, rfl, hv1, hb1⟩; obtain ⟨a1, c1, rfl⟩ := hv1.slice; have hA3 := heap_below hb1 hA1; have hA2 := heap_below hb1 hA0; obtain ⟨p2, f2⟩ := blk hA2; obtain ⟨p3, f3⟩ := blk hA3; have hx1 := below_from (by first | exact hW | exact hW.drew) hb1) | (go_at_call 106; refine (HC2.out _ hx1).mono ?_; rintro e w3 ⟨v2, rfl, hv2, hb2⟩; obtain ⟨a2, c2, rfl⟩ := hv2.slice; have hA4 := heap_below hb2 hA2; have hA5 := heap_below hb2 hA3; obtain ⟨p4, f4⟩ := blk hA4; obtain ⟨p5, f5⟩ := blk hA5))
  all_goals
    go_wp2_with fail
  all_goals
    refine bodyPost_ret (results_line rfl _ _ (w.heap.size + 1) (.int .i64 l.quote) (.slice a1 l.lists.length c1) (.int .i64 l.kind) (.slice a2 l.cells.length c2) rfl (by simp [heap_set, putIn, hA5])) rfl ?_
    have s1 := hb1.size
    have s2 := hb2.size
    have s0 := hB.size
    simp at s1
    refine ⟨_, _, rfl, hv1.stable (rdOf_stable _) ((((((((Keeps.refl _ _).on hb2).set (by simp; omega) _).set (by simp; omega) _).set (by simp; omega) _).set (by simp; omega) _).set (by simp; omega) _).set (by simp; omega) _) (fun b h _ => ?_), hv2.stable (rdOf_stable _) (((((((Keeps.refl _ _).set (by simp; omega) _).set (by simp; omega) _).set (by simp; omega) _).set (by simp; omega) _).set (by simp; omega) _).set (by simp; omega) _) (fun b h _ => ?_), ?_⟩
    · (try simp at h); omega
    · (try simp at h); omega
    · have hb1' : Below W1.heap.size W1 w2 := (Below.refl _ _).drew.trans hb1
      have hbb := (hB.trans (hb1'.mono s0)).trans (hb2.mono (by omega))
      exact (((((hbb.setCell (by simp) _).setCell (by simp) _).setCell (by simp) _).setCell (by simp) _).setCell (by simp) _).setCell (by simp) _
end Go.Proofs.YtfoiaoopbkcpoaaGreatDoor
namespace Go.Proofs.YtfoiaoopbkcpoaaGreatDoor
open Go.RowKit
open Go.Proofs.Qw

theorem oneV_line (l : Lin) (a1 a2 : Option Addr) (n1 c1 n2 c2 : Nat) : ∀ u ∈ [Value.int .i64 l.quote, .slice a1 n1 c1, .int .i64 l.kind, .slice a2 n2 c2], u.oneCell' = true := by
  intro u hu
  simp at hu
  rcases hu with rfl | rfl | rfl | rfl <;> rfl
/-- Of lists and cells at most so many. -/
def Fits (d : List Lin) : Prop := d.length ≤ 1000000 ∧ ∀ l ∈ d, l.lists.length ≤ 1000000 ∧ l.cells.length ≤ 1000000

set_option maxRecDepth 100000 in
set_option maxHeartbeats 2000000 in
theorem docOwn_any (v : Value) (d : List Lin) (w w0 : World) (S : Nat → Prop) (h : LinsR w0 S v d) (h0 : Below w0.heap.size w0 w) (hs : Fits d) :
    Calls Tryz.prog 32 #[v] w fun e w' => ∃ v', e = .returned v' ∧ DocR true w' (fun b => w.heap.size ≤ b) v' d ∧ Below w.heap.size w w' := by
  obtain ⟨a, c, rfl, hc, hm, hx⟩ := lins_shape h
  have HX := Lib.hid hx
  have HF := Lib.hid hs
  have hn : d.length ≤ 1000000 := hs.1
  clear hx h hs
  unfold maxLen at hm
  go_enter Tryz.func32, Tryz.ntmps32
  go_wp2_with fail
  go_loopw [3, 8] (fun out i wr => ∃ k : Nat, k ≤ d.length ∧ i = .int .i64 k ∧ DocR true wr (fun b => w.heap.size ≤ b) out (d.take k) ∧ Below w.heap.size w wr) (fun _ i _ => d.length - (intOf i).toNat)
  case atStart => exact ⟨0, Nat.zero_le _, rfl, SliceR.nil _ _ _ _ _ _, Below.refl _ _⟩
  case round =>
    obtain ⟨k, hk, rfl, hO, hb⟩ := hrel
    by_cases hlt : k < d.length
    · obtain ⟨l, hl, hd⟩ := getOf d k hlt
      obtain ⟨b, o, la, lc, ca, cc, rfl, hA⟩ := HX.out k l hl
      have hfl := HF.out.2 l (List.mem_of_getElem? hl)
      have HT := Lib.hid (take_some hl)
      have HH := Lib.hid (And.intro hA.listsR hA.cellsR)
      obtain ⟨_, c0, c1, c2, c3, _, _⟩ := hA.below (below_from h0 hb)
      have HW : Hid (∀ W, Below w0.heap.size w0 W → Calls Tryz.prog 68 #[linV l (.slice la l.lists.length lc) (.slice ca l.cells.length cc)] W fun e w' => ∃ a' b', e = .returned (linV l a' b') ∧ IntsR true w' (fun b => W.heap.size ≤ b) a' l.lists ∧ CelsR true w' (fun b => W.heap.size ≤ b) b' l.cells ∧ Below W.heap.size W w') :=
        Lib.hid fun W hW => lineOwn_any l _ _ false false W w0 S HH.out.1 HH.out.2 hW hfl
      have HO := Lib.hid hO
      have hbw := below_from h0 hb
      have hbs := hb.size
      have htl : (d.take k).length + 1 ≤ 100000000 := by rw [List.length_take]; omega
      clear hA hd hl hO hfl HH
      go_wp2_with (first
        | (go_at_call 68; refine (HW.out _ (hbw.alloc (by have := hbw.size; simp; omega) _)).mono ?_; rintro e w2 ⟨a', b', rfl, ha', hb', hb2⟩; obtain ⟨a1, c1, rfl⟩ := ha'.slice; obtain ⟨a2, c2, rfl⟩ := hb'.slice; have HA1 := Lib.hid ha'; have HA2 := Lib.hid hb'; have HB2 := Lib.hid hb2; clear ha' hb'; have hz2 := hb2.size; simp at hz2; clear hb2; unfold linV)
        | (at_builtin; go_must (refine wpList_append_R _ rfl _ _ 22 22 rfl rowLine eltLine w.heap.size _ _ (xs := d.take k) (ys := [l]) (news := [.int .i64 l.quote, .slice a1 l.lists.length c1, .int .i64 l.kind, .slice a2 l.cells.length c2]) rfl rfl (HO.out.stable (rdLin_stable _) ((((Keeps.refl _ _).alloc _).on HB2.out).alloc _) (fun _ h _ => h)) (by simp; omega) (src_one rowLine w2 _ rfl (oneV_line _ _ _ _ _ _ _) 1) (NewsR.one rfl ⟨_, _, rfl, HA1.out.stable (rdOf_stable _) ((Keeps.refl _ _).alloc _) (fun b h _ => Nat.le_trans hbs (Nat.le_trans (by simp) h)), HA2.out.stable (rdOf_stable _) ((Keeps.refl _ _).alloc _) (fun b h _ => Nat.le_trans hbs (Nat.le_trans (by simp) h))⟩) htl ?_); intro v' w3 hR hB _ _; rw [← HT.out] at hR; have HR := Lib.hid hR; have HB3 := Lib.hid hB; clear hR hB))
      go_roundw
      case rel => exact ⟨k + 1, hlt, by go_num, HR.out, hb.trans ((((Below.refl _ _).alloc hbs _).trans (HB2.out.mono (by simp; omega))).alloc (by omega) _ |>.trans HB3.out)⟩
      case measure => simp [intOf]; omega
    · obtain rfl : k = d.length := by omega
      have HT := Lib.hid (List.take_length (l := d))
      have HO := Lib.hid hO
      have HB := Lib.hid hb
      clear hb hO
      go_wp2_with fail
      go_ret
      exact ⟨_, rfl, Eq.mp (congrArg (fun x => DocR true wr (fun b => w.heap.size ≤ b) _ x) HT.out) HO.out, HB.out⟩
end Go.Proofs.YtfoiaoopbkcpoaaGreatDoor
namespace Go.Proofs.Qw
open Go.RowKit Go.Proofs.YtfoiaoopbkcpoaaGreatDoor

/-- The shape of what there was: the blocks' types and sizes, and where the slices lie in lines. -/
def Shp (w wr : World) : Prop := ∀ (b : Nat) (cs : Array Value) (t : TypeId), w.heap[b]? = some (.cells cs t) → ∃ cs' : Array Value, wr.heap[b]? = some (.cells cs' t) ∧ cs'.size = cs.size ∧ (t = 55 → ∀ (j : Nat) (a : Option Addr) (n c : Nat), cs[j]? = some (.slice a n c) → cs'[j]? = some (.slice a n c))
theorem Shp.refl (w : World) : Shp w w := fun _ cs _ h => ⟨cs, h, rfl, fun _ _ _ _ _ h => h⟩
theorem Shp.set {w wr : World} (h : Shp w wr) {B off : Nat} {cs : Array Value} {t : TypeId} (hB : w.heap[B]? = some (.cells cs t)) (ht : t = 55 → ∃ k z, cs[off]? = some (.int k z)) (v : Value) : Shp w (wr.setCell ⟨B, off, none⟩ v) := by
  intro b cs2 t2 h2
  obtain ⟨cs', g1, g2, g3⟩ := h b cs2 t2 h2
  by_cases e : B = b
  · subst e
    rw [hB] at h2
    cases h2
    refine ⟨cs'.setIfInBounds off v, by rw [heap_set, if_pos rfl, g1]; rfl, by simpa using g2, fun e j a n c hj => ?_⟩
    obtain ⟨k, z, hz⟩ := ht e
    have hne : off ≠ j := fun e2 => by subst e2; rw [hz] at hj; cases hj
    rw [Array.getElem?_setIfInBounds, if_neg hne]
    exact g3 e j a n c hj
  · exact ⟨cs', by rw [heap_set, if_neg e]; exact g1, g2, g3⟩
/-- A cell of a block is there, and may be written. -/
theorem Shp.at {w wr : World} (h : Shp w wr) {B off : Nat} {cs : Array Value} {t : TypeId} (hB : w.heap[B]? = some (.cells cs t)) (ho : off < cs.size) : (∃ u, wr.cell? ⟨B, off, none⟩ = some u) ∧ wr.frozen? ⟨B, off, none⟩ = false := by
  obtain ⟨cs', g1, g2, _⟩ := h B cs t hB
  refine ⟨⟨cs'[off], ?_⟩, frozen_of_heap g1⟩
  rw [cell_of_heap g1, Array.getElem?_eq_getElem (by omega)]
theorem Shp.slice {w wr : World} (h : Shp w wr) {B off : Nat} {cs : Array Value} (hB : w.heap[B]? = some (.cells cs 55)) {a : Option Addr} {n c : Nat} (ho : cs[off]? = some (.slice a n c)) : wr.cell? ⟨B, off, none⟩ = some (.slice a n c) := by
  obtain ⟨cs', g1, _, g3⟩ := h B cs _ hB
  rw [cell_of_heap g1]
  exact g3 rfl off a n c ho
theorem docOwn_shape {w : World} {S : Nat → Prop} {v : Value} {d : List Lin} (h : DocR true w S v d) :
    ∃ a c, v = .slice a d.length c ∧ d.length ≤ c ∧ c ≤ maxLen ∧ ∀ i l, d[i]? = some l → ∃ b o, ∃ cs : Array Value, ∃ la lc ca cc, a = some ⟨b, o, none⟩ ∧ S b ∧ w.heap[b]? = some (.cells cs 55) ∧ cs[o + i * 4 + 1]? = some (.slice la l.lists.length lc) ∧ cs[o + i * 4 + 2]? = some (.int .i64 l.kind) ∧
      cs[o + i * 4 + 3]? = some (.slice ca l.cells.length cc) ∧ IntsR true w S (.slice la l.lists.length lc) l.lists ∧ CelsR true w S (.slice ca l.cells.length cc) l.cells := by
  obtain ⟨a, c, rfl, hc, hm, hx⟩ := SliceR.shape_own h
  refine ⟨a, c, rfl, hc, hm, fun i l hl => ?_⟩
  obtain ⟨b, o, vs, cs, rfl, hz, hb, g1, g2, _, ⟨x, y, rfl, h1, h2⟩, he⟩ := hx i l hl
  obtain ⟨la, lc, rfl⟩ := h1.slice
  obtain ⟨ca, cc, rfl⟩ := h2.slice
  refine ⟨b, o, cs, la, lc, ca, cc, rfl, hb, g1, ?_, ?_, ?_, h1, h2⟩
  · rw [← cell_of_heap g1]; exact he 1 _ rfl
  · rw [← cell_of_heap g1]; exact he 2 _ rfl
  · rw [← cell_of_heap g1]; exact he 3 _ rfl
end Go.Proofs.Qw
namespace Go.Proofs.YtfoiaoopbkcpoaaGreatDoor
open Go.RowKit
open Go.Proofs.Qw

set_option maxRecDepth 100000 in
set_option maxHeartbeats 4000000 in
theorem spoil_any (v : Value) (d : List Lin) (n : Nat) (w : World) (h : DocR true w (fun b => n ≤ b) v d) :
    Calls Tryz.prog 67 #[v] w fun e w' => (∃ u, e = .returned u) ∧ Below n w w' := by
  obtain ⟨a, c, rfl, hc, hm, hx⟩ := docOwn_shape h
  have HX := Lib.hid hx
  unfold maxLen at hm
  clear hx h
  go_enter Tryz.func67, Tryz.ntmps67
  go_wp2_with fail
  go_loopw [2, 3, 4] (fun i _ _ wr => ∃ k : Nat, k ≤ d.length ∧ i = .int .i64 k ∧ Shp w wr ∧ Below n w wr) (fun i _ _ _ => d.length - (intOf i).toNat)
  case atStart => exact ⟨0, Nat.zero_le _, rfl, Shp.refl _, Below.refl _ _⟩
  case round =>
    obtain ⟨k, hk, rfl, hS, hb⟩ := hrel
    obtain ⟨wo, rfl⟩ : ∃ wo : World, wo = wr := ⟨_, rfl⟩
    by_cases hlt : k < d.length
    · obtain ⟨l, hl, hd⟩ := getOf d k hlt
      obtain ⟨b, o, cs, la, lc, ca, cc, rfl, hSb, hg, e1, e2, e3, hI, hC⟩ := HX.out k l hl
      have hSb : n ≤ b := hSb
      have hcl := hC.len
      have hil := hI.len
      have HL := Lib.hid (And.intro hg (And.intro e1 (And.intro e2 e3)))
      have HIC := Lib.hid (And.intro hI hC)
      have q1 := hS.slice hg e1
      have q3 := hS.slice hg e3
      have hSS := Lib.hid hS
      unfold maxLen at hcl hil
      clear hl hd hI hC hg e1 e2 e3 hS
      go_wp2_with fail
      go_loopw [3] (fun j wi => ∃ q : Nat, q ≤ l.cells.length ∧ j = .int .i64 q ∧ Shp w wi ∧ Below n w wi) (fun j _ => l.cells.length - (intOf j).toNat)
      case atStart => exact ⟨0, Nat.zero_le _, rfl, hSS.out, hb⟩
      case round =>
        clear q1 q3 hSS hb
        obtain ⟨q, hq, rfl, hS, hb⟩ := hrel
        have q1 := hS.slice HL.out.1 HL.out.2.1
        have q3 := hS.slice HL.out.1 HL.out.2.2.2
        have HS := Lib.hid hS
        by_cases hlt2 : q < l.cells.length
        · obtain ⟨bc, oc, cs2, rfl, hSc, hg2, hsz⟩ := HIC.out.2.cellAt hlt2
          have hSc : n ≤ bc := hSc
          obtain ⟨⟨u, hu⟩, hf⟩ := hS.at (off := oc + q * 3 + 1) hg2 (by omega)
          have HG2 := Lib.hid hg2
          clear hS hg2
          go_wp2_with fail
          go_roundw
          case rel => exact ⟨q + 1, hlt2, by go_num, HS.out.set HG2.out (fun e => absurd e (by decide)) _, hb.setCell hSc _⟩
          case measure => simp [intOf]; omega
        · obtain rfl : q = l.cells.length := by omega
          clear hS
          go_wp2_with fail
          go_loopw [4] (fun j wi => ∃ q : Nat, q ≤ l.lists.length ∧ j = .int .i64 q ∧ Shp w wi ∧ Below n w wi) (fun j _ => l.lists.length - (intOf j).toNat)
          case atStart => exact ⟨0, Nat.zero_le _, rfl, HS.out, hb⟩
          case round =>
            clear q1 q3 HS hb
            obtain ⟨q, hq, rfl, hS, hb⟩ := hrel
            have q1 := hS.slice HL.out.1 HL.out.2.1
            have q3 := hS.slice HL.out.1 HL.out.2.2.2
            have HS := Lib.hid hS
            by_cases hlt2 : q < l.lists.length
            · obtain ⟨bc, oc, cs2, rfl, hSc, hg2, hsz⟩ := HIC.out.1.cellAt hlt2
              have hSc : n ≤ bc := hSc
              obtain ⟨⟨u, hu⟩, hf⟩ := hS.at (off := oc + q * 1) hg2 (by omega)
              rw [Nat.mul_one] at hu hf
              have HG2 := Lib.hid hg2
              clear hS hg2
              go_wp2_with fail
              go_roundw
              case rel => exact ⟨q + 1, hlt2, by go_num, HS.out.set HG2.out (fun e => absurd e (by decide)) _, hb.setCell hSc _⟩
              case measure => simp [intOf]; omega
            · obtain rfl : q = l.lists.length := by omega
              have hos : o + k * 4 + 2 < cs.size := (Array.getElem?_eq_some_iff.1 HL.out.2.2.1).1
              obtain ⟨⟨u, hu⟩, hf⟩ := hS.at (off := o + k * 4 + 2) HL.out.1 hos
              clear hS
              go_wp2_with fail
              go_roundw
              case rel => exact ⟨k + 1, hlt, by go_num, HS.out.set HL.out.1 (fun _ => ⟨_, _, HL.out.2.2.1⟩) _, hb.setCell hSb _⟩
              case measure => simp [intOf]; omega
    · obtain rfl : k = d.length := by omega
      have HB := Lib.hid hb
      clear hb hS
      go_wp2_with fail
      go_returns
      exact ⟨⟨_, rfl⟩, HB.out⟩
end Go.Proofs.YtfoiaoopbkcpoaaGreatDoor
