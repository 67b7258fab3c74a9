/- The walks of doc.Set, doc.Link. -/
import Derived.Test.YtfoiaoopbkcpoaaGreatDoorDocEach
import Derived.Test.YtfoiaoopbkcpoaaGreatDoorCells
namespace Go.Proofs.YtfoiaoopbkcpoaaGreatDoor
open Go.RowKit
open Go.Proofs.Qw

theorem DocSaid.from {x : Doc × Int} {w W : World} {e : Ending} {w' : World} (h : DocSaid x W e w') (hb : Below w.heap.size w W) : DocSaid x w e w' := by
  obtain ⟨v', h1, h2, h3⟩ := h
  exact ⟨v', h1, SliceR.stable (rdLin_stable true) h2 (Keeps.refl _ _) (fun b h _ => Nat.le_trans hb.size h), below_from hb h3⟩
theorem eachC_ok {F : Cel → Cel} {cs : List Cel} {i j : Nat} (hij : i ≤ j) (hj : j ≤ cs.length) : eachC F cs i j = (mapIn F i j cs, 0) := by
  unfold eachC spanC
  rw [if_pos (by simp; omega)]
  simp
theorem docSet1_any (v : Value) (cs : List Cel) (i j s c : Int) (b1 b2 : Nat) (w : World) (S : Nat → Prop) (own : Bool) (h : CelsR own w S v cs) (hs : cs.length ≤ 1000000) (h1 : w.heap[b1]? = some (.cells #[.int .i64 s] 3)) (h2 : w.heap[b2]? = some (.cells #[.int .i64 c] 3)) :
    Calls Tryz.prog 70 #[v, .int .i64 i, .int .i64 j, .pointer (some ⟨b1, 0, none⟩), .pointer (some ⟨b2, 0, none⟩)] w (CellsSaid (eachC (setBits s c) cs i j).1 (eachC (setBits s c) cs i j).2 w) := by
  have HC := Lib.hid (cellsSet_any v cs i j s c w S own h hs)
  obtain ⟨a, cc, rfl⟩ := h.slice
  obtain ⟨p1, f1⟩ := blk h1
  obtain ⟨p2, f2⟩ := blk h2
  generalize eachC (setBits s c) cs i j = r at *
  clear h h1 h2
  go_enter Tryz.func70, Tryz.ntmps70
  go_wp2_with (go_at_call 71; refine HC.out.mono ?_; intro e w2 hsaid; obtain ⟨v', rfl, hv', hb'⟩ := hsaid)
  go_ret2
  exact ⟨_, rfl, hv', hb'⟩
theorem docLink1_any (v : Value) (cs : List Cel) (i j : Int) (hr : List UInt8) (b1 : Nat) (w : World) (S : Nat → Prop) (own : Bool) (h : CelsR own w S v cs) (hs : cs.length ≤ 1000000) (he : EnvT w) (hh : hr.length ≤ 1000000) (h1 : w.heap[b1]? = some (.cells #[.string ⟨hr.toArray⟩] 9)) :
    Calls Tryz.prog 77 #[v, .int .i64 i, .int .i64 j, .pointer (some ⟨b1, 0, none⟩)] w (CellsSaid (linkC hr cs i j).1 (linkC hr cs i j).2 w) := by
  have HC := Lib.hid (cellsLink_any v cs i j hr w S own h hs he hh)
  obtain ⟨a, cc, rfl⟩ := h.slice
  obtain ⟨p1, f1⟩ := blk h1
  generalize linkC hr cs i j = r at *
  clear h h1 he hh
  go_enter Tryz.func77, Tryz.ntmps77
  go_wp2_with (go_at_call 78; refine HC.out.mono ?_; intro e w2 hsaid; obtain ⟨v', rfl, hv', hb'⟩ := hsaid)
  go_ret2
  exact ⟨_, rfl, hv', hb'⟩

def setD (s c : Int) (d : Doc) (a b : Ps) : Doc × Int := eachD (fun cs i j => mapIn (setBits s c) i j cs) d a b
set_option maxRecDepth 100000 in
set_option maxHeartbeats 2000000 in
theorem docSet_any (v : Value) (d : Doc) (a b : Ps) (s c : Int) (w : World) (S : Nat → Prop) (h : LinsR w S v d) (he : EnvT w) (hs : Small d) (hf : Fits d) :
    Calls Tryz.prog 34 #[v, posV a, posV b, .int .i64 s, .int .i64 c] w (DocSaid (setD s c d a b) w) := by
  obtain ⟨W1, hW1⟩ : ∃ W1, (((w.alloc (.cells #[.int .i64 a.line, .int .i64 a.col] 24)).alloc (.cells #[.int .i64 b.line, .int .i64 b.col] 24)).alloc (.cells #[.int .i64 s] 3)).alloc (.cells #[.int .i64 c] 3) = W1 := ⟨_, rfl⟩
  have hB : Below w.heap.size w W1 := hW1 ▸ ((((Below.refl _ _).alloc (Nat.le_refl _) _).alloc (by simp) _).alloc (by simp; omega) _).alloc (by simp; omega) _
  have k0 : W1.heap[w.heap.size]? = some (.cells #[.int .i64 a.line, .int .i64 a.col] 24) := hW1 ▸ heap_old _ _ (heap_old _ _ (heap_old _ _ (heap_new _ _ rfl)))
  have k1 : W1.heap[w.heap.size + 1]? = some (.cells #[.int .i64 b.line, .int .i64 b.col] 24) := hW1 ▸ heap_old _ _ (heap_old _ _ (heap_new _ _ (by simp)))
  have k2 : W1.heap[w.heap.size + 2]? = some (.cells #[.int .i64 s] 3) := hW1 ▸ heap_old _ _ (heap_new _ _ (by simp))
  have k3 : W1.heap[w.heap.size + 3]? = some (.cells #[.int .i64 c] 3) := hW1 ▸ heap_new _ _ (by simp)
  have HC := Lib.hid (docEach_any v d a b 70 #[.pointer (some ⟨w.heap.size + 2, 0, none⟩), .pointer (some ⟨w.heap.size + 3, 0, none⟩)] (fun cs i j => mapIn (setBits s c) i j cs) W1 S (h.below (rdLin_stable _) hB) (he.below hB) hs hf (fun c i j => mapIn_length _ _ _ _)
    (enters_of Tryz.func70 (by kernel_rfl) rfl) (fun W v cs i j hW hv hij hj hl => by
      have := docSet1_any v cs i j s c (w.heap.size + 2) (w.heap.size + 3) W _ true hv hl (heap_below hW k2) (heap_below hW k3)
      rw [eachC_ok hij hj] at this
      exact this))
  have HP : Hid (∀ p : Ps, posV p = .agg #[.int .i64 p.line, .int .i64 p.col]) := Lib.hid fun _ => rfl
  have HR : Hid (setD s c d a b = eachD (fun cs i j => mapIn (setBits s c) i j cs) d a b) := Lib.hid rfl
  have H1 := Lib.hid hB
  obtain ⟨p1, f1⟩ := blk k0
  obtain ⟨p2, f2⟩ := blk k1
  obtain ⟨va, vc, rfl⟩ := h.slice
  generalize eachD (fun cs i j => mapIn (setBits s c) i j cs) d a b = r at *
  clear h he hs hf k0 k1 k2 k3 hB
  rw [HP.out a, HP.out b] at HC ⊢
  go_enter Tryz.func34, Tryz.ntmps34
  go_wp2_with (go_at_call 69; refine HC.out.mono ?_; intro e w2 hsaid; have hsaid := DocSaid.from hsaid H1.out; obtain ⟨v', rfl, hv', hb'⟩ := hsaid)
  go_ret2
  rw [HR.out]
  exact ⟨_, rfl, hv', hb'⟩

def linkD (hr : List UInt8) (d : Doc) (a b : Ps) : Doc × Int := if linkF hr = true then eachD (fun cs i j => mapIn (setHref hr) i j cs) d a b else ([], 1)
set_option maxRecDepth 100000 in
set_option maxHeartbeats 2000000 in
theorem docLink_any (v : Value) (d : Doc) (a b : Ps) (hr : List UInt8) (w : World) (S : Nat → Prop) (h : LinsR w S v d) (he : EnvT w) (hs : Small d) (hf : Fits d) (hh : hr.length ≤ 1000000) :
    Calls Tryz.prog 36 #[v, posV a, posV b, .string ⟨hr.toArray⟩] w (DocSaid (linkD hr d a b) w) := by
  obtain ⟨W1, hW1, hB, hz, k0, k1, k2⟩ := three_blocks w (.int .i64 a.line) (.int .i64 a.col) (.int .i64 b.line) (.int .i64 b.col) (.string ⟨hr.toArray⟩) 9
  have HB : Hid (∀ W, Below W1.heap.size W1 W → W.heap[w.heap.size]? = some (.cells #[.int .i64 a.line, .int .i64 a.col] 24) ∧ W.heap[w.heap.size + 1]? = some (.cells #[.int .i64 b.line, .int .i64 b.col] 24)) := Lib.hid fun W hW => ⟨heap_below hW k0, heap_below hW k1⟩
  have HT : Hid (Calls Tryz.prog 76 #[.string ⟨hr.toArray⟩] W1 fun e w' => e = .returned (.bool (targetF hr)) ∧ Below W1.heap.size W1 w') := Lib.hid (target_any ⟨hr.toArray⟩ W1 (he.below hB) (by show hr.toArray.size ≤ _; simpa using hh))
  have HC : Hid (linkF hr = true → ∀ W, Below W1.heap.size W1 W → Calls Tryz.prog 69 #[v, posV a, posV b, .func (.func 77) #[] #[.pointer (some ⟨w.heap.size + 2, 0, none⟩)]] W (DocSaid (eachD (fun cs i j => mapIn (setHref hr) i j cs) d a b) W)) := Lib.hid fun hlk W hW =>
    docEach_any v d a b 77 #[.pointer (some ⟨w.heap.size + 2, 0, none⟩)] (fun cs i j => mapIn (setHref hr) i j cs) W S ((h.below (rdLin_stable _) hB).below (rdLin_stable _) hW) ((he.below hB).below hW) hs hf (fun c i j => mapIn_length _ _ _ _)
      (enters_of Tryz.func77 (by kernel_rfl) rfl) (fun X v cs i j hX hv hij hj hl => by
        have := docLink1_any v cs i j hr (w.heap.size + 2) X _ true hv hl (((he.below hB).below hW).below hX) hh (heap_below hX (heap_below hW k2))
        unfold linkC at this
        rw [if_pos hlk, eachC_ok hij hj] at this
        exact this)
  have HP : Hid (∀ p : Ps, posV p = .agg #[.int .i64 p.line, .int .i64 p.col]) := Lib.hid fun _ => rfl
  have HR : Hid (linkD hr d a b = if linkF hr = true then eachD (fun cs i j => mapIn (setHref hr) i j cs) d a b else ([], 1)) := Lib.hid rfl
  have HL : Hid (linkF hr = (decide (hr = []) || targetF hr)) := Lib.hid rfl
  have H1 := Lib.hid hB
  have hs1 := hB.size
  have hw1 : Below W1.heap.size W1 W1 := Below.refl _ _
  obtain ⟨p1, f1⟩ := blk k0
  obtain ⟨p2, f2⟩ := blk k1
  obtain ⟨p3, f3⟩ := blk k2
  obtain ⟨va, vc, rfl⟩ := h.slice
  generalize eachD (fun cs i j => mapIn (setHref hr) i j cs) d a b = r at *
  clear h he hs hf k0 k1 k2 hB hh
  rw [HP.out a, HP.out b] at HC ⊢
  by_cases hn : hr = []
  · have HC := Lib.hid (HC.out (by rw [HL.out, decide_eq_true hn]; rfl))
    have HR : Hid (linkD hr d a b = r) := Lib.hid (HR.out.trans (if_pos (by rw [HL.out, decide_eq_true hn]; rfl)))
    have hne : hr.isEmpty = true := by simpa using hn
    clear hn
    go_enter Tryz.func36, Tryz.ntmps36
    go_wp2_with (go_at_call 69; refine (HC.out _ hw1).mono ?_; intro e w2 hsaid; have hsaid := DocSaid.from hsaid H1.out; obtain ⟨v', rfl, hv', hb'⟩ := hsaid)
    go_ret2
    rw [HR.out]
    exact ⟨_, rfl, hv', hb'⟩
  · have hne : hr.isEmpty = false := by simpa using hn
    cases htg : targetF hr
    · have HR : Hid (linkD hr d a b = ([], 1)) := Lib.hid (HR.out.trans (if_neg (by rw [HL.out, decide_eq_false hn, htg]; simp)))
      rw [htg] at HT
      clear htg
      go_enter Tryz.func36, Tryz.ntmps36
      go_wp2_with (go_at_call 76; refine HT.out.mono ?_; rintro e w2 ⟨rfl, hb2⟩)
      go_ret2
      unfold DocSaid
      rw [HR.out]
      exact ⟨_, rfl, SliceR.nil _ _ _ _ _ _, H1.out.trans (hb2.mono hs1)⟩
    · have hlk : linkF hr = true := by rw [HL.out, htg]; simp
      have HC := Lib.hid (HC.out hlk)
      have HR : Hid (linkD hr d a b = r) := Lib.hid (HR.out.trans (if_pos hlk))
      rw [htg] at HT
      clear htg hlk
      go_enter Tryz.func36, Tryz.ntmps36
      go_wp2_with (first | (go_at_call 76; refine HT.out.mono ?_; rintro e w2 ⟨rfl, hb2⟩; obtain ⟨q1, g1⟩ := blk (HB.out _ hb2).1; obtain ⟨q2, g2⟩ := blk (HB.out _ hb2).2) | (go_at_call 69; refine (HC.out _ hb2).mono ?_; intro e w3 hsaid; have hsaid := DocSaid.from hsaid (H1.out.trans (hb2.mono hs1)); obtain ⟨v', rfl, hv', hb'⟩ := hsaid))
      go_ret2
      rw [HR.out]
      exact ⟨_, rfl, hv', hb'⟩
end Go.Proofs.YtfoiaoopbkcpoaaGreatDoor
