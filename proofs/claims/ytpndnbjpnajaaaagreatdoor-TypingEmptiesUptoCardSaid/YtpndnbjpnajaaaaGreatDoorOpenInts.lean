/- What styling does: styling.Toggle. -/
import Derived.Test.YtpndnbjpnajaaaaGreatDoorStyToggle
import Derived.Test.YtpndnbjpnajaaaaGreatDoorKeys3
import Derived.Test.YtpndnbjpnajaaaaGreatDoorRefPart
import Derived.Test.YtpndnbjpnajaaaaGreatDoorReplace
import Derived.Test.YtpndnbjpnajaaaaGreatDoorRefTarget
import Derived.Test.YtpndnbjpnajaaaaGreatDoorCellsInsert
import Derived.Test.YtpndnbjpnajaaaaGreatDoorStyTells
import Derived.Test.YtpndnbjpnajaaaaGreatDoorStyStays
set_option linter.unusedVariables false
set_option linter.unusedSimpArgs false
namespace Go.Proofs.YtpndnbjpnajaaaaGreatDoor
open Go.RowKit
open Go.Proofs.Qw
attribute [local go_sem] Oper.semAt_some
theorem set_st (w : World) (B : Nat) {x0 x1 x2 x3 x4 x5 x6 : Value} {t : TypeId} (h : w.heap[B]? = some (.cells #[x0, x1, x2, x3, x4, x5, x6] t)) (a b c d e f g : Value) :
    ∃ W, ((((((w.setCell ⟨B, 0, none⟩ a).setCell ⟨B, 1, none⟩ b).setCell ⟨B, 2, none⟩ c).setCell ⟨B, 3, none⟩ d).setCell ⟨B, 4, none⟩ e).setCell ⟨B, 5, none⟩ f).setCell ⟨B, 6, none⟩ g = W ∧
      W.heap[B]? = some (.cells #[a, b, c, d, e, f, g] t) ∧ (∀ n, n ≤ B → Below n w W) ∧ (∀ k, k ≠ B → W.heap[k]? = w.heap[k]?) ∧ W.heap.size = w.heap.size :=
  ⟨_, rfl, by simp [heap_set, putIn, h], fun n hn => (((((((Below.refl _ _).setCell hn _).setCell hn _).setCell hn _).setCell hn _).setCell hn _).setCell hn _).setCell hn _, fun k hk => by simp [heap_set, Ne.symm hk], by simp⟩
theorem slice_blk {α : Type} {t : TypeId} {k : Nat} {enc : α → List Value} (hk : ∀ x, (enc x).length = k) {w : World} {S : Nat → Prop} {b : Nat} (xs : List α) (h : w.heap[b]? = some (.cells (xs.map enc).flatten.toArray t)) (hS : S b) (hm : xs.length ≤ maxLen) {u : TypeId} :
    SliceR u k (rdOf enc) false w S (.slice (some ⟨b, 0, none⟩) xs.length xs.length) xs := by
  refine ⟨_, xs.length, rfl, Nat.le_refl _, hm, .inr ⟨b, 0, rfl, hS, (Array.getElem?_eq_some_iff.1 h).1, fun h => (by cases h), fun i x hx => ⟨enc x, hk x, rfl, fun j u hu => ?_⟩⟩⟩
  rw [cell_of_heap h, Nat.zero_add, List.getElem?_toArray]
  exact flatten_at (xs.map enc) i (enc x) j u (by simp; intro a _; exact hk a) (by rw [List.getElem?_map, hx]; rfl) hu
set_option maxRecDepth 100000 in
set_option maxHeartbeats 8000000 in
theorem styToggle_any (v : Value) (s : St) (t : Int) (w : World) (S : Nat → Prop) (h : LinsR w S v s.lines) (he : EnvT w) (hs : Small s.lines) (hf : Fits s.lines) :
    Calls Tryz.prog 29 #[stV v s, .int .i64 t] w (StSaid (toggleS s t) w) := by
  obtain ⟨W1, hW1, hB, hz, k0, k1, k2⟩ := st_val_st w v s (.int .i64 t) 3
  have HB : Hid (∀ W, Below W1.heap.size W1 W → W.heap[w.heap.size]? = some (.cells #[v, .int .i64 s.anc.line, .int .i64 s.anc.col, .int .i64 s.foc.line, .int .i64 s.foc.col, .int .i64 s.on, .int .i64 s.off] 26) ∧ W.heap[w.heap.size + 1]? = some (.cells #[.int .i64 t] 3) ∧ W.heap[w.heap.size + 2]? = some (.cells #[.slice none 0 0, .int .i64 0, .int .i64 0, .int .i64 0, .int .i64 0, .int .i64 0, .int .i64 0] 26)) := Lib.hid fun W hW => ⟨heap_below hW k0, heap_below hW k1, heap_below hW k2⟩
  have hs1 := hB.size
  have H1 := Lib.hid hB
  have hw0 : Below W1.heap.size W1 W1 := Below.refl _ _
  have HV : Hid (∀ W, Below W1.heap.size W1 W → LinsR W S v s.lines) := Lib.hid fun W hW => h.below (rdLin_stable _) (hB.trans (hW.mono hs1))
  have HE : Hid (∀ W, Below W1.heap.size W1 W → EnvT W) := Lib.hid fun W hW => (he.below hB).below hW
  have HM : Hid (∀ W, Below W1.heap.size W1 W → Calls Tryz.prog 27 #[stV v s] W fun e w' => e = .returned (.bool (mayS s)) ∧ Below W.heap.size W w') := Lib.hid fun W hW => stMay_any v s W S (HV.out W hW) (HE.out W hW) hs
  have HO : Hid (∀ W, Below W1.heap.size W1 W → Calls Tryz.prog 75 #[stV v s] W fun e w' => e = .returned (.bool (!decide (s.anc = s.foc))) ∧ Below W.heap.size W w') := Lib.hid fun W hW => styOpen_any v s W
  have HBi : Hid (∀ W, Below W1.heap.size W1 W → Calls Tryz.prog 19 #[stV v s] W fun e w' => e = .returned (.int .i64 (bitsS s)) ∧ Below W.heap.size W w') := Lib.hid fun W hW => styBits_any v s W S (HV.out W hW) (HE.out W hW) hs hf
  have HOw : Hid (∀ W, Below W1.heap.size W1 W → Calls Tryz.prog 41 #[stV v s] W fun e w' => ∃ v', e = .returned (stV v' s) ∧ DocR true w' (fun b => W.heap.size ≤ b) v' s.lines ∧ Below W.heap.size W w') := Lib.hid fun W hW => stOwn_any v s W S (HV.out W hW) hf
  have HCh : Hid (mayS s = true → ∀ W, Below W1.heap.size W1 W → Calls Tryz.prog 95 #[stV v s, .func (.func 96) #[] #[.pointer (some ⟨w.heap.size + 1, 0, none⟩)]] W (StSaid (staysS s (togD s t)) W)) := Lib.hid fun hm W hW => by
    have := styChanged_any v s 96 #[.pointer (some ⟨w.heap.size + 1, 0, none⟩)] (togD s t) W S (HV.out W hW) (HE.out W hW) hs (enters_of Tryz.func96 (by kernel_rfl) rfl)
      (fun _ X hX => styToggle1_any (w.heap.size + 1) v s.lines (spanS s).1 (spanS s).2 t X S (HV.out X (below_from hW hX)) (HE.out X (below_from hW hX)) hs hf (HB.out X (below_from hW hX)).2.1)
    unfold changedS at this
    rw [if_pos hm] at this
    exact this
  have HT : Hid (∀ W : World, Calls Tryz.prog 93 #[] W fun e w' => e = .returned (.agg #[.int .i64 1, .int .i64 2, .int .i64 4, .int .i64 8]) ∧ Below W.heap.size W w') := Lib.hid fun W => by
    go_enter Tryz.func93, Tryz.ntmps93
    go_wp2_with fail
    refine bodyPost_ret (results_cell_row rfl _ _ W.heap.size _ _ _ _ rfl (heap_new _ _ rfl) Tryz.underlying82 rfl (by kernel_rfl)) rfl ?_
    exact ⟨rfl, by (repeat' (first | (with_reducible exact Below.refl _ _) | (with_reducible assumption) | (with_reducible refine Below.alloc ?_ ?_ _) | (with_reducible refine Below.drew ?_) | (with_reducible refine drewN_below ?_) | (with_reducible refine Below.setCell ?_ ?_ _) | go_size))⟩
  have HR : Hid (toggleS s t = if mayS s = true ∧ four t = true then (if s.anc = s.foc then (togC s t, 0) else staysS s (togD s t)) else (noS, 1)) := Lib.hid rfl
  have HTC : Hid (togC s t = ⟨s.lines, s.anc, s.foc, bits .or .i64 (bits .andNot .i64 s.on t) (bits .andNot .i64 t (bitsS s)), bits .or .i64 (bits .andNot .i64 s.off t) (bits .andNot .i64 t (bits .andNot .i64 t (bitsS s)))⟩) := Lib.hid rfl
  obtain ⟨va, vc, rfl⟩ := h.slice
  clear h he hs hf hB
  obtain ⟨w2, hw2⟩ : ∃ w2, W1 = w2 := ⟨_, rfl⟩
  cases hm : mayS s
  · rw [hm] at HM HR
    have HR2 : Hid (toggleS s t = (noS, 1)) := Lib.hid (HR.out.trans (if_neg (by simp)))
    obtain ⟨p0, f0⟩ := blk k0
    clear HR HCh hm k0 k1 k2 hw2
    go_enter Tryz.func29, Tryz.ntmps29
    go_wp2_with (go_at_call 93; refine (HT.out _).mono ?_; rintro e w2 ⟨rfl, hst2⟩)
    have hb2 := below_from hw0 hst2
    obtain ⟨w3, hw3⟩ : ∃ w3, w2.alloc (.cells #[.int .i64 1, .int .i64 2, .int .i64 4, .int .i64 8] 82) = w3 := ⟨_, rfl⟩
    rw [hw3]
    have hb23 : Below w2.heap.size w2 w3 := hw3 ▸ below1 (Below.refl _ _) _
    have n3 : w3.heap[w2.heap.size]? = some (.cells #[.int .i64 1, .int .i64 2, .int .i64 4, .int .i64 8] 82) := hw3 ▸ heap_new _ _ rfl
    have hb3 := below_from hb2 hb23
    have HCt : Hid (∀ W, Below w3.heap.size w3 W → Calls Tryz.prog 94 #[.slice (some ⟨w2.heap.size, 0, none⟩) 4 4, .int .i64 t] W fun e w' => e = .returned (.bool (four t)) ∧ Below W.heap.size W w') := Lib.hid fun W hW => by
      have := containsInts_any _ [1, 2, 4, 8] t W (fun _ => True) (slice_blk (enc := encInt) (fun _ => rfl) [1, 2, 4, 8] (heap_below hW n3) trivial (by decide))
      rw [four_any] at this
      exact this.mono fun _ _ ⟨h1, h2⟩ => ⟨h1, h2 ▸ Below.refl _ _⟩
    clear hw3 n3 p0 f0
    refine wp_region_grew w3.heap.size (by kernel_rfl) (by kernel_rfl) ?_
    refine BigFrame.wpQuiet_want (by kernel_rfl) (fun K hK => ?_)
    refine quiet_val ?_ (fun W hW => ?_) (hK _ ?_)
    rotate_left 1
    · skip
      obtain ⟨p0, f0⟩ := blk (HB.out _ (below_from hb3 hW)).1
      obtain ⟨p1, f1⟩ := blk (HB.out _ (below_from hb3 hW)).2.1
      go_simp
      try rfl
    clear hK
    clear K
    try simp only [Act.put, List.setIfInBounds_toArray, List.set_cons_zero, List.set_cons_succ]
    refine BigFrame.wpQuiet_want (by kernel_rfl) (fun K hK => ?_)
    refine quiet_calls (f := ?_) (args := ?_) ?_ (fun W hW => ?_) (fun W hW => ?_) (hK _ ?_)
    rotate_left 3
    · go_simp
      constructor <;> rfl
    · refine (HM.out _ (below_from hb3 hW)).mono ?_
      rintro e W2 ⟨rfl, hbW⟩
      refine ⟨?_, below_from hW hbW⟩
      rfl
    clear hK
    clear K
    try simp only [Act.put, List.setIfInBounds_toArray, List.set_cons_zero, List.set_cons_succ]
    refine BigFrame.wpQuiet_want (by kernel_rfl) (fun K hK => ?_)
    refine quiet_val ?_ (fun W hW => ?_) (hK _ ?_)
    rotate_left 1
    · skip
      go_simp
      try rfl
    clear hK
    clear K
    try simp only [Act.put, List.setIfInBounds_toArray, List.set_cons_zero, List.set_cons_succ]
    refine BigFrame.wpQuiet_want (by kernel_rfl) (fun K hK => ?_)
    refine quiet_val ?_ (fun W hW => ?_) (hK _ ?_)
    rotate_left 1
    · skip
      go_simp
      try rfl
    clear hK
    clear K
    try simp only [Act.put, List.setIfInBounds_toArray, List.set_cons_zero, List.set_cons_succ]
    refine BigFrame.wpQuiet_skip (by kernel_rfl) ?_
    try simp only [Act.put, List.setIfInBounds_toArray, List.set_cons_zero, List.set_cons_succ]
    refine BigFrame.wpQuiet_skip (by kernel_rfl) ?_
    try simp only [Act.put, List.setIfInBounds_toArray, List.set_cons_zero, List.set_cons_succ]
    refine BigFrame.wpQuiet_skip (by kernel_rfl) ?_
    try simp only [Act.put, List.setIfInBounds_toArray, List.set_cons_zero, List.set_cons_succ]
    refine BigFrame.wpQuiet_skip (by kernel_rfl) ?_
    try simp only [Act.put, List.setIfInBounds_toArray, List.set_cons_zero, List.set_cons_succ]
    refine BigFrame.wpQuiet_want (by kernel_rfl) (fun K hK => ?_)
    refine quiet_val ?_ (fun W hW => ?_) (hK _ ?_)
    rotate_left 1
    · skip
      go_simp
      try rfl
    clear hK
    clear K
    try simp only [Act.put, List.setIfInBounds_toArray, List.set_cons_zero, List.set_cons_succ]
    refine BigFrame.wpQuiet_want (by kernel_rfl) (fun K hK => ?_)
    refine quiet_val ?_ (fun W hW => ?_) (hK _ ?_)
    rotate_left 1
    · skip
      go_simp
      try rfl
    clear hK
    clear K
    try simp only [Act.put, List.setIfInBounds_toArray, List.set_cons_zero, List.set_cons_succ]
    refine wpQuiet_nil (fun X6 hstX6 => ?_)
    have hcX6 := below_from hb3 hstX6
    obtain ⟨p2, f2⟩ := blk (HB.out _ hcX6).2.2
    go_wp2_with fail
    refine bodyPost_ret (results_st_e rfl _ _ (w.heap.size + 2) (.slice none 0 0) (.int .i64 0) (.int .i64 0) (.int .i64 0) (.int .i64 0) (.int .i64 0) (.int .i64 0) (.int .i64 1) rfl rfl (by simp [heap_set, putIn, (HB.out _ hcX6).2.2])) rfl ?_
    unfold StSaid
    rw [HR2.out]
    have hfin := H1.out.trans (hcX6.mono hs1)
    exact ⟨_, rfl, SliceR.nil _ _ _ _ _ _, by (repeat' (first | (with_reducible exact Below.refl _ _) | (with_reducible assumption) | (with_reducible refine Below.alloc ?_ ?_ _) | (with_reducible refine Below.drew ?_) | (with_reducible refine drewN_below ?_) | (with_reducible refine Below.setCell ?_ ?_ _) | go_size))⟩
  · have HCh2 := Lib.hid (HCh.out hm)
    rw [hm] at HM HR
    clear HCh hm hw2
    cases hfo : four t
    · rw [hfo] at HR
      have HF := Lib.hid hfo
      have HR2 : Hid (toggleS s t = (noS, 1)) := Lib.hid (HR.out.trans (if_neg (by simp)))
      obtain ⟨p0, f0⟩ := blk k0
      clear HR HCh2 hfo k0 k1 k2
      go_enter Tryz.func29, Tryz.ntmps29
      go_wp2_with (go_at_call 93; refine (HT.out _).mono ?_; rintro e w2 ⟨rfl, hst2⟩)
      have hb2 := below_from hw0 hst2
      obtain ⟨w3, hw3⟩ : ∃ w3, w2.alloc (.cells #[.int .i64 1, .int .i64 2, .int .i64 4, .int .i64 8] 82) = w3 := ⟨_, rfl⟩
      rw [hw3]
      have hb23 : Below w2.heap.size w2 w3 := hw3 ▸ below1 (Below.refl _ _) _
      have n3 : w3.heap[w2.heap.size]? = some (.cells #[.int .i64 1, .int .i64 2, .int .i64 4, .int .i64 8] 82) := hw3 ▸ heap_new _ _ rfl
      have hb3 := below_from hb2 hb23
      have HCt : Hid (∀ W, Below w3.heap.size w3 W → Calls Tryz.prog 94 #[.slice (some ⟨w2.heap.size, 0, none⟩) 4 4, .int .i64 t] W fun e w' => e = .returned (.bool (four t)) ∧ Below W.heap.size W w') := Lib.hid fun W hW => by
        have := containsInts_any _ [1, 2, 4, 8] t W (fun _ => True) (slice_blk (enc := encInt) (fun _ => rfl) [1, 2, 4, 8] (heap_below hW n3) trivial (by decide))
        rw [four_any] at this
        exact this.mono fun _ _ ⟨h1, h2⟩ => ⟨h1, h2 ▸ Below.refl _ _⟩
      clear hw3 n3 p0 f0
      rw [HF.out] at HCt
      refine wp_region_grew w3.heap.size (by kernel_rfl) (by kernel_rfl) ?_
      refine BigFrame.wpQuiet_want (by kernel_rfl) (fun K hK => ?_)
      refine quiet_val ?_ (fun W hW => ?_) (hK _ ?_)
      rotate_left 1
      · skip
        obtain ⟨p0, f0⟩ := blk (HB.out _ (below_from hb3 hW)).1
        obtain ⟨p1, f1⟩ := blk (HB.out _ (below_from hb3 hW)).2.1
        go_simp
        try rfl
      clear hK
      clear K
      try simp only [Act.put, List.setIfInBounds_toArray, List.set_cons_zero, List.set_cons_succ]
      refine BigFrame.wpQuiet_want (by kernel_rfl) (fun K hK => ?_)
      refine quiet_calls (f := ?_) (args := ?_) ?_ (fun W hW => ?_) (fun W hW => ?_) (hK _ ?_)
      rotate_left 3
      · go_simp
        constructor <;> rfl
      · refine (HM.out _ (below_from hb3 hW)).mono ?_
        rintro e W2 ⟨rfl, hbW⟩
        refine ⟨?_, below_from hW hbW⟩
        rfl
      clear hK
      clear K
      try simp only [Act.put, List.setIfInBounds_toArray, List.set_cons_zero, List.set_cons_succ]
      refine BigFrame.wpQuiet_want (by kernel_rfl) (fun K hK => ?_)
      refine quiet_val ?_ (fun W hW => ?_) (hK _ ?_)
      rotate_left 1
      · skip
        go_simp
        try rfl
      clear hK
      clear K
      try simp only [Act.put, List.setIfInBounds_toArray, List.set_cons_zero, List.set_cons_succ]
      refine BigFrame.wpQuiet_want (by kernel_rfl) (fun K hK => ?_)
      refine quiet_val ?_ (fun W hW => ?_) (hK _ ?_)
      rotate_left 1
      · skip
        go_simp
        try rfl
      clear hK
      clear K
      try simp only [Act.put, List.setIfInBounds_toArray, List.set_cons_zero, List.set_cons_succ]
      refine BigFrame.wpQuiet_want (by kernel_rfl) (fun K hK => ?_)
      refine quiet_val ?_ (fun W hW => ?_) (hK _ ?_)
      rotate_left 1
      · skip
        go_simp
        try rfl
      clear hK
      clear K
      try simp only [Act.put, List.setIfInBounds_toArray, List.set_cons_zero, List.set_cons_succ]
      refine BigFrame.wpQuiet_want (by kernel_rfl) (fun K hK => ?_)
      refine quiet_val ?_ (fun W hW => ?_) (hK _ ?_)
      rotate_left 1
      · skip
        obtain ⟨p0, f0⟩ := blk (HB.out _ (below_from hb3 hW)).1
        obtain ⟨p1, f1⟩ := blk (HB.out _ (below_from hb3 hW)).2.1
        go_simp
        try rfl
      clear hK
      clear K
      try simp only [Act.put, List.setIfInBounds_toArray, List.set_cons_zero, List.set_cons_succ]
      refine BigFrame.wpQuiet_want (by kernel_rfl) (fun K hK => ?_)
      refine quiet_calls (f := ?_) (args := ?_) ?_ (fun W hW => ?_) (fun W hW => ?_) (hK _ ?_)
      rotate_left 3
      · go_simp
        constructor <;> rfl
      · refine (HCt.out _ hW).mono ?_
        rintro e W2 ⟨rfl, hbW⟩
        refine ⟨?_, below_from hW hbW⟩
        rfl
      clear hK
      clear K
      try simp only [Act.put, List.setIfInBounds_toArray, List.set_cons_zero, List.set_cons_succ]
      refine BigFrame.wpQuiet_want (by kernel_rfl) (fun K hK => ?_)
      refine quiet_val ?_ (fun W hW => ?_) (hK _ ?_)
      rotate_left 1
      · skip
        go_simp
        try rfl
      clear hK
      clear K
      try simp only [Act.put, List.setIfInBounds_toArray, List.set_cons_zero, List.set_cons_succ]
      refine BigFrame.wpQuiet_want (by kernel_rfl) (fun K hK => ?_)
      refine quiet_val ?_ (fun W hW => ?_) (hK _ ?_)
      rotate_left 1
      · skip
        go_simp
        try rfl
      clear hK
      clear K
      try simp only [Act.put, List.setIfInBounds_toArray, List.set_cons_zero, List.set_cons_succ]
      refine BigFrame.wpQuiet_want (by kernel_rfl) (fun K hK => ?_)
      refine quiet_val ?_ (fun W hW => ?_) (hK _ ?_)
      rotate_left 1
      · skip
        go_simp
        try rfl
      clear hK
      clear K
      try simp only [Act.put, List.setIfInBounds_toArray, List.set_cons_zero, List.set_cons_succ]
      refine wpQuiet_nil (fun X6 hstX6 => ?_)
      have hcX6 := below_from hb3 hstX6
      obtain ⟨p2, f2⟩ := blk (HB.out _ hcX6).2.2
      go_wp2_with fail
      refine bodyPost_ret (results_st_e rfl _ _ (w.heap.size + 2) (.slice none 0 0) (.int .i64 0) (.int .i64 0) (.int .i64 0) (.int .i64 0) (.int .i64 0) (.int .i64 0) (.int .i64 1) rfl rfl (by simp [heap_set, putIn, (HB.out _ hcX6).2.2])) rfl ?_
      unfold StSaid
      rw [HR2.out]
      have hfin := H1.out.trans (hcX6.mono hs1)
      exact ⟨_, rfl, SliceR.nil _ _ _ _ _ _, by (repeat' (first | (with_reducible exact Below.refl _ _) | (with_reducible assumption) | (with_reducible refine Below.alloc ?_ ?_ _) | (with_reducible refine Below.drew ?_) | (with_reducible refine drewN_below ?_) | (with_reducible refine Below.setCell ?_ ?_ _) | go_size))⟩
    · rw [hfo] at HR
      have HF := Lib.hid hfo
      rw [if_pos ⟨rfl, rfl⟩] at HR
      by_cases hc : s.anc = s.foc
      · have HR2 : Hid (toggleS s t = (togC s t, 0)) := Lib.hid (HR.out.trans (if_pos hc))
        rw [decide_eq_true hc] at HO
        obtain ⟨p0, f0⟩ := blk k0
        obtain ⟨r, hr⟩ : ∃ r, bitsS s = r := ⟨_, rfl⟩
        rw [hr] at HBi HTC
        clear HR HCh2 hfo hc hr k0 k1 k2
        go_enter Tryz.func29, Tryz.ntmps29
        go_wp2_with (go_at_call 93; refine (HT.out _).mono ?_; rintro e w2 ⟨rfl, hst2⟩)
        have hb2 := below_from hw0 hst2
        obtain ⟨w3, hw3⟩ : ∃ w3, w2.alloc (.cells #[.int .i64 1, .int .i64 2, .int .i64 4, .int .i64 8] 82) = w3 := ⟨_, rfl⟩
        rw [hw3]
        have hb23 : Below w2.heap.size w2 w3 := hw3 ▸ below1 (Below.refl _ _) _
        have n3 : w3.heap[w2.heap.size]? = some (.cells #[.int .i64 1, .int .i64 2, .int .i64 4, .int .i64 8] 82) := hw3 ▸ heap_new _ _ rfl
        have hb3 := below_from hb2 hb23
        have HCt : Hid (∀ W, Below w3.heap.size w3 W → Calls Tryz.prog 94 #[.slice (some ⟨w2.heap.size, 0, none⟩) 4 4, .int .i64 t] W fun e w' => e = .returned (.bool (four t)) ∧ Below W.heap.size W w') := Lib.hid fun W hW => by
          have := containsInts_any _ [1, 2, 4, 8] t W (fun _ => True) (slice_blk (enc := encInt) (fun _ => rfl) [1, 2, 4, 8] (heap_below hW n3) trivial (by decide))
          rw [four_any] at this
          exact this.mono fun _ _ ⟨h1, h2⟩ => ⟨h1, h2 ▸ Below.refl _ _⟩
        clear hw3 n3 p0 f0
        rw [HF.out] at HCt
        refine wp_region_grew w3.heap.size (by kernel_rfl) (by kernel_rfl) ?_
        refine BigFrame.wpQuiet_want (by kernel_rfl) (fun K hK => ?_)
        refine quiet_val ?_ (fun W hW => ?_) (hK _ ?_)
        rotate_left 1
        · skip
          obtain ⟨p0, f0⟩ := blk (HB.out _ (below_from hb3 hW)).1
          obtain ⟨p1, f1⟩ := blk (HB.out _ (below_from hb3 hW)).2.1
          go_simp
          try rfl
        clear hK
        clear K
        try simp only [Act.put, List.setIfInBounds_toArray, List.set_cons_zero, List.set_cons_succ]
        refine BigFrame.wpQuiet_want (by kernel_rfl) (fun K hK => ?_)
        refine quiet_calls (f := ?_) (args := ?_) ?_ (fun W hW => ?_) (fun W hW => ?_) (hK _ ?_)
        rotate_left 3
        · go_simp
          constructor <;> rfl
        · refine (HM.out _ (below_from hb3 hW)).mono ?_
          rintro e W2 ⟨rfl, hbW⟩
          refine ⟨?_, below_from hW hbW⟩
          rfl
        clear hK
        clear K
        try simp only [Act.put, List.setIfInBounds_toArray, List.set_cons_zero, List.set_cons_succ]
        refine BigFrame.wpQuiet_want (by kernel_rfl) (fun K hK => ?_)
        refine quiet_val ?_ (fun W hW => ?_) (hK _ ?_)
        rotate_left 1
        · skip
          go_simp
          try rfl
        clear hK
        clear K
        try simp only [Act.put, List.setIfInBounds_toArray, List.set_cons_zero, List.set_cons_succ]
        refine BigFrame.wpQuiet_want (by kernel_rfl) (fun K hK => ?_)
        refine quiet_val ?_ (fun W hW => ?_) (hK _ ?_)
        rotate_left 1
        · skip
          go_simp
          try rfl
        clear hK
        clear K
        try simp only [Act.put, List.setIfInBounds_toArray, List.set_cons_zero, List.set_cons_succ]
        refine BigFrame.wpQuiet_want (by kernel_rfl) (fun K hK => ?_)
        refine quiet_val ?_ (fun W hW => ?_) (hK _ ?_)
        rotate_left 1
        · skip
          go_simp
          try rfl
        clear hK
        clear K
        try simp only [Act.put, List.setIfInBounds_toArray, List.set_cons_zero, List.set_cons_succ]
        refine BigFrame.wpQuiet_want (by kernel_rfl) (fun K hK => ?_)
        refine quiet_val ?_ (fun W hW => ?_) (hK _ ?_)
        rotate_left 1
        · skip
          obtain ⟨p0, f0⟩ := blk (HB.out _ (below_from hb3 hW)).1
          obtain ⟨p1, f1⟩ := blk (HB.out _ (below_from hb3 hW)).2.1
          go_simp
          try rfl
        clear hK
        clear K
        try simp only [Act.put, List.setIfInBounds_toArray, List.set_cons_zero, List.set_cons_succ]
        refine BigFrame.wpQuiet_want (by kernel_rfl) (fun K hK => ?_)
        refine quiet_calls (f := ?_) (args := ?_) ?_ (fun W hW => ?_) (fun W hW => ?_) (hK _ ?_)
        rotate_left 3
        · go_simp
          constructor <;> rfl
        · refine (HCt.out _ hW).mono ?_
          rintro e W2 ⟨rfl, hbW⟩
          refine ⟨?_, below_from hW hbW⟩
          rfl
        clear hK
        clear K
        try simp only [Act.put, List.setIfInBounds_toArray, List.set_cons_zero, List.set_cons_succ]
        refine BigFrame.wpQuiet_want (by kernel_rfl) (fun K hK => ?_)
        refine quiet_val ?_ (fun W hW => ?_) (hK _ ?_)
        rotate_left 1
        · skip
          go_simp
          try rfl
        clear hK
        clear K
        try simp only [Act.put, List.setIfInBounds_toArray, List.set_cons_zero, List.set_cons_succ]
        refine BigFrame.wpQuiet_want (by kernel_rfl) (fun K hK => ?_)
        refine quiet_val ?_ (fun W hW => ?_) (hK _ ?_)
        rotate_left 1
        · skip
          go_simp
          try rfl
        clear hK
        clear K
        try simp only [Act.put, List.setIfInBounds_toArray, List.set_cons_zero, List.set_cons_succ]
        refine BigFrame.wpQuiet_want (by kernel_rfl) (fun K hK => ?_)
        refine quiet_val ?_ (fun W hW => ?_) (hK _ ?_)
        rotate_left 1
        · skip
          go_simp
          try rfl
        clear hK
        clear K
        try simp only [Act.put, List.setIfInBounds_toArray, List.set_cons_zero, List.set_cons_succ]
        refine wpQuiet_nil (fun X6 hstX6 => ?_)
        have hcX6 := below_from hb3 hstX6
        obtain ⟨p0, f0⟩ := blk (HB.out _ hcX6).1
        go_wp2_with (go_at_call 75; refine (HO.out _ hcX6).mono ?_; rintro e w7 ⟨rfl, hst7⟩; have hb7 := below_from hcX6 hst7; skip)
        clear p0 f0
        refine wp_region_grew w7.heap.size (by kernel_rfl) (by kernel_rfl) ?_
        refine BigFrame.wpQuiet_want (by kernel_rfl) (fun K hK => ?_)
        refine quiet_val ?_ (fun W hW => ?_) (hK _ ?_)
        rotate_left 1
        · skip
          obtain ⟨p0, f0⟩ := blk (HB.out _ (below_from hb7 hW)).1
          obtain ⟨p1, f1⟩ := blk (HB.out _ (below_from hb7 hW)).2.1
          go_simp
          try rfl
        clear hK
        clear K
        try simp only [Act.put, List.setIfInBounds_toArray, List.set_cons_zero, List.set_cons_succ]
        refine BigFrame.wpQuiet_want (by kernel_rfl) (fun K hK => ?_)
        refine quiet_val ?_ (fun W hW => ?_) (hK _ ?_)
        rotate_left 1
        · skip
          obtain ⟨p0, f0⟩ := blk (HB.out _ (below_from hb7 hW)).1
          obtain ⟨p1, f1⟩ := blk (HB.out _ (below_from hb7 hW)).2.1
          go_simp
          try rfl
        clear hK
        clear K
        try simp only [Act.put, List.setIfInBounds_toArray, List.set_cons_zero, List.set_cons_succ]
        refine BigFrame.wpQuiet_want (by kernel_rfl) (fun K hK => ?_)
        refine quiet_calls (f := ?_) (args := ?_) ?_ (fun W hW => ?_) (fun W hW => ?_) (hK _ ?_)
        rotate_left 3
        · go_simp
          constructor <;> rfl
        · refine (HBi.out _ (below_from hb7 hW)).mono ?_
          rintro e W2 ⟨rfl, hbW⟩
          refine ⟨?_, below_from hW hbW⟩
          rfl
        clear hK
        clear K
        try simp only [Act.put, List.setIfInBounds_toArray, List.set_cons_zero, List.set_cons_succ]
        refine BigFrame.wpQuiet_want (by kernel_rfl) (fun K hK => ?_)
        refine quiet_val ?_ (fun W hW => ?_) (hK _ ?_)
        rotate_left 1
        · skip
          go_simp
          try rfl
        clear hK
        clear K
        try simp only [Act.put, List.setIfInBounds_toArray, List.set_cons_zero, List.set_cons_succ]
        refine BigFrame.wpQuiet_want (by kernel_rfl) (fun K hK => ?_)
        refine quiet_val ?_ (fun W hW => ?_) (hK _ ?_)
        rotate_left 1
        · skip
          go_simp
          try rfl
        clear hK
        clear K
        try simp only [Act.put, List.setIfInBounds_toArray, List.set_cons_zero, List.set_cons_succ]
        refine wpQuiet_nil (fun X8 hstX8 => ?_)
        have hcX8 := below_from hb7 hstX8
        obtain ⟨p0, f0⟩ := blk (HB.out _ hcX8).1
        go_wp2_with (go_at_call 41; refine (HOw.out _ hcX8).mono ?_; rintro e w9 ⟨v9, rfl, hv9, hst9⟩; obtain ⟨a9, c9, rfl⟩ := hv9.slice; have hb9 := below_from hcX8 hst9; have HV9 := Lib.hid hv9; clear hv9; obtain ⟨q0, g0⟩ := blk (HB.out _ hb9).1)
        obtain ⟨w10, hw10, n10, b10, o10, z10⟩ := set_st w9 w.heap.size (HB.out _ hb9).1 (.slice a9 s.lines.length c9) (.int .i64 s.anc.line) (.int .i64 s.anc.col) (.int .i64 s.foc.line) (.int .i64 s.foc.col) (.int .i64 s.on) (.int .i64 s.off)
        rw [hw10]
        have HX10 := Lib.hid (And.intro n10 (And.intro ((o10 (w.heap.size + 1) (by omega)).trans (HB.out _ hb9).2.1) (And.intro ((o10 (w.heap.size + 2) (by omega)).trans (HB.out _ hb9).2.2) (And.intro b10 (And.intro o10 z10)))))
        clear hw10 q0 g0 n10 b10 o10 z10 p0 f0
        obtain ⟨p0, f0⟩ := blk HX10.out.1
        obtain ⟨p1, f1⟩ := blk HX10.out.2.1
        obtain ⟨p2, f2⟩ := blk HX10.out.2.2.1
        go_region
        go_wp2_with fail
        refine bodyPost_ret (results_st_e rfl _ _ (w.heap.size + 2) (.slice a9 s.lines.length c9) (.int .i64 s.anc.line) (.int .i64 s.anc.col) (.int .i64 s.foc.line) (.int .i64 s.foc.col) (.int .i64 (bits .or .i64 (bits .andNot .i64 s.on t) (bits .andNot .i64 t r))) (.int .i64 (bits .or .i64 (bits .andNot .i64 s.off t) (bits .andNot .i64 t (bits .andNot .i64 t r)))) (.int .i64 0) rfl rfl (by rw [drew_heap]; simp [heap_set, putIn, HX10.out.2.2.1])) rfl ?_
        unfold StSaid
        rw [HR2.out, HTC.out]
        have hb10 : Below w.heap.size w w10 := (H1.out.trans (hb9.mono hs1)).trans (HX10.out.2.2.2.1 _ (Nat.le_refl _))
        have hv10 : DocR true w10 (fun b => w.heap.size + 3 ≤ b) (.slice a9 s.lines.length c9) s.lines := SliceR.stable (rdLin_stable true) HV9.out ⟨Nat.le_of_eq HX10.out.2.2.2.2.2.symm, fun b hb _ => HX10.out.2.2.2.2.1 b (fun e => by have hb : X8.heap.size ≤ b := hb; have := hcX8.size; omega)⟩ (fun b hb _ => by have hb : X8.heap.size ≤ b := hb; have := hcX8.size; show w.heap.size + 3 ≤ b; omega)
        exact ⟨_, rfl, (SliceR.stable (rdLin_stable _) hv10 (by (repeat' (first | (with_reducible exact Keeps.refl _ _) | (with_reducible refine Keeps.set ?_ ?_ _) | (with_reducible refine Keeps.alloc ?_ _) | (with_reducible refine Keeps.drew ?_) | (first | (simp; done)) | (simp; omega)))) (fun b h _ => (by have h' := h; (try simp at h'); omega))), by (repeat' (first | (with_reducible exact Below.refl _ _) | (with_reducible assumption) | (with_reducible refine Below.alloc ?_ ?_ _) | (with_reducible refine Below.drew ?_) | (with_reducible refine drewN_below ?_) | (with_reducible refine Below.setCell ?_ ?_ _) | go_size))⟩
      · have HR2 : Hid (toggleS s t = staysS s (togD s t)) := Lib.hid (HR.out.trans (if_neg hc))
        rw [decide_eq_false hc] at HO
        obtain ⟨X, hX⟩ : ∃ X, staysS s (togD s t) = X := ⟨_, rfl⟩
        rw [hX] at HCh2 HR2
        obtain ⟨p0, f0⟩ := blk k0
        clear HR hfo hc hX k0 k1 k2
        go_enter Tryz.func29, Tryz.ntmps29
        go_wp2_with (go_at_call 93; refine (HT.out _).mono ?_; rintro e w2 ⟨rfl, hst2⟩)
        have hb2 := below_from hw0 hst2
        obtain ⟨w3, hw3⟩ : ∃ w3, w2.alloc (.cells #[.int .i64 1, .int .i64 2, .int .i64 4, .int .i64 8] 82) = w3 := ⟨_, rfl⟩
        rw [hw3]
        have hb23 : Below w2.heap.size w2 w3 := hw3 ▸ below1 (Below.refl _ _) _
        have n3 : w3.heap[w2.heap.size]? = some (.cells #[.int .i64 1, .int .i64 2, .int .i64 4, .int .i64 8] 82) := hw3 ▸ heap_new _ _ rfl
        have hb3 := below_from hb2 hb23
        have HCt : Hid (∀ W, Below w3.heap.size w3 W → Calls Tryz.prog 94 #[.slice (some ⟨w2.heap.size, 0, none⟩) 4 4, .int .i64 t] W fun e w' => e = .returned (.bool (four t)) ∧ Below W.heap.size W w') := Lib.hid fun W hW => by
          have := containsInts_any _ [1, 2, 4, 8] t W (fun _ => True) (slice_blk (enc := encInt) (fun _ => rfl) [1, 2, 4, 8] (heap_below hW n3) trivial (by decide))
          rw [four_any] at this
          exact this.mono fun _ _ ⟨h1, h2⟩ => ⟨h1, h2 ▸ Below.refl _ _⟩
        clear hw3 n3 p0 f0
        rw [HF.out] at HCt
        refine wp_region_grew w3.heap.size (by kernel_rfl) (by kernel_rfl) ?_
        refine BigFrame.wpQuiet_want (by kernel_rfl) (fun K hK => ?_)
        refine quiet_val ?_ (fun W hW => ?_) (hK _ ?_)
        rotate_left 1
        · skip
          obtain ⟨p0, f0⟩ := blk (HB.out _ (below_from hb3 hW)).1
          obtain ⟨p1, f1⟩ := blk (HB.out _ (below_from hb3 hW)).2.1
          go_simp
          try rfl
        clear hK
        clear K
        try simp only [Act.put, List.setIfInBounds_toArray, List.set_cons_zero, List.set_cons_succ]
        refine BigFrame.wpQuiet_want (by kernel_rfl) (fun K hK => ?_)
        refine quiet_calls (f := ?_) (args := ?_) ?_ (fun W hW => ?_) (fun W hW => ?_) (hK _ ?_)
        rotate_left 3
        · go_simp
          constructor <;> rfl
        · refine (HM.out _ (below_from hb3 hW)).mono ?_
          rintro e W2 ⟨rfl, hbW⟩
          refine ⟨?_, below_from hW hbW⟩
          rfl
        clear hK
        clear K
        try simp only [Act.put, List.setIfInBounds_toArray, List.set_cons_zero, List.set_cons_succ]
        refine BigFrame.wpQuiet_want (by kernel_rfl) (fun K hK => ?_)
        refine quiet_val ?_ (fun W hW => ?_) (hK _ ?_)
        rotate_left 1
        · skip
          go_simp
          try rfl
        clear hK
        clear K
        try simp only [Act.put, List.setIfInBounds_toArray, List.set_cons_zero, List.set_cons_succ]
        refine BigFrame.wpQuiet_want (by kernel_rfl) (fun K hK => ?_)
        refine quiet_val ?_ (fun W hW => ?_) (hK _ ?_)
        rotate_left 1
        · skip
          go_simp
          try rfl
        clear hK
        clear K
        try simp only [Act.put, List.setIfInBounds_toArray, List.set_cons_zero, List.set_cons_succ]
        refine BigFrame.wpQuiet_want (by kernel_rfl) (fun K hK => ?_)
        refine quiet_val ?_ (fun W hW => ?_) (hK _ ?_)
        rotate_left 1
        · skip
          go_simp
          try rfl
        clear hK
        clear K
        try simp only [Act.put, List.setIfInBounds_toArray, List.set_cons_zero, List.set_cons_succ]
        refine BigFrame.wpQuiet_want (by kernel_rfl) (fun K hK => ?_)
        refine quiet_val ?_ (fun W hW => ?_) (hK _ ?_)
        rotate_left 1
        · skip
          obtain ⟨p0, f0⟩ := blk (HB.out _ (below_from hb3 hW)).1
          obtain ⟨p1, f1⟩ := blk (HB.out _ (below_from hb3 hW)).2.1
          go_simp
          try rfl
        clear hK
        clear K
        try simp only [Act.put, List.setIfInBounds_toArray, List.set_cons_zero, List.set_cons_succ]
        refine BigFrame.wpQuiet_want (by kernel_rfl) (fun K hK => ?_)
        refine quiet_calls (f := ?_) (args := ?_) ?_ (fun W hW => ?_) (fun W hW => ?_) (hK _ ?_)
        rotate_left 3
        · go_simp
          constructor <;> rfl
        · refine (HCt.out _ hW).mono ?_
          rintro e W2 ⟨rfl, hbW⟩
          refine ⟨?_, below_from hW hbW⟩
          rfl
        clear hK
        clear K
        try simp only [Act.put, List.setIfInBounds_toArray, List.set_cons_zero, List.set_cons_succ]
        refine BigFrame.wpQuiet_want (by kernel_rfl) (fun K hK => ?_)
        refine quiet_val ?_ (fun W hW => ?_) (hK _ ?_)
        rotate_left 1
        · skip
          go_simp
          try rfl
        clear hK
        clear K
        try simp only [Act.put, List.setIfInBounds_toArray, List.set_cons_zero, List.set_cons_succ]
        refine BigFrame.wpQuiet_want (by kernel_rfl) (fun K hK => ?_)
        refine quiet_val ?_ (fun W hW => ?_) (hK _ ?_)
        rotate_left 1
        · skip
          go_simp
          try rfl
        clear hK
        clear K
        try simp only [Act.put, List.setIfInBounds_toArray, List.set_cons_zero, List.set_cons_succ]
        refine BigFrame.wpQuiet_want (by kernel_rfl) (fun K hK => ?_)
        refine quiet_val ?_ (fun W hW => ?_) (hK _ ?_)
        rotate_left 1
        · skip
          go_simp
          try rfl
        clear hK
        clear K
        try simp only [Act.put, List.setIfInBounds_toArray, List.set_cons_zero, List.set_cons_succ]
        refine wpQuiet_nil (fun X6 hstX6 => ?_)
        have hcX6 := below_from hb3 hstX6
        obtain ⟨p0, f0⟩ := blk (HB.out _ hcX6).1
        go_wp2_with (first
          | (go_at_call 75; refine (HO.out _ hcX6).mono ?_; rintro e w7 ⟨rfl, hst7⟩; have hb7 := below_from hcX6 hst7; obtain ⟨q0, g0⟩ := blk (HB.out _ hb7).1)
          | (go_at_call 95; refine (HCh2.out _ hb7).mono ?_; intro e w8 hsaid; obtain ⟨v8, rfl, hv8, hst8⟩ := hsaid; obtain ⟨a8, c8, rfl⟩ := hv8.slice; have hb8 := below_from hb7 hst8; have HV8 := Lib.hid hv8; clear hv8; obtain ⟨q2, g2⟩ := blk (HB.out _ hb8).2.2))
        refine bodyPost_ret (results_st_e rfl _ _ (w.heap.size + 2) (.slice a8 X.1.lines.length c8) (.int .i64 X.1.anc.line) (.int .i64 X.1.anc.col) (.int .i64 X.1.foc.line) (.int .i64 X.1.foc.col) (.int .i64 X.1.on) (.int .i64 X.1.off) (.int .i64 X.2) rfl rfl (by simp [heap_set, putIn, (HB.out _ hb8).2.2])) rfl ?_
        unfold StSaid
        rw [HR2.out]
        have hfin := H1.out.trans (hb8.mono hs1)
        have hv8 := HV8.out
        have hz7 := hb7.size
        exact ⟨_, rfl, (SliceR.stable (rdLin_stable _) hv8 (by (repeat' (first | (with_reducible exact Keeps.refl _ _) | (with_reducible refine Keeps.set ?_ ?_ _) | (with_reducible refine Keeps.alloc ?_ _) | (with_reducible refine Keeps.drew ?_) | (first | fail) | (simp; omega)))) (fun b h _ => (by have h' := h; (try simp at h'); omega))), by (repeat' (first | (with_reducible exact Below.refl _ _) | (with_reducible assumption) | (with_reducible refine Below.alloc ?_ ?_ _) | (with_reducible refine Below.drew ?_) | (with_reducible refine drewN_below ?_) | (with_reducible refine Below.setCell ?_ ?_ _) | go_size))⟩
end Go.Proofs.YtpndnbjpnajaaaaGreatDoor
namespace Go.Proofs.YtpndnbjpnajaaaaGreatDoor
open Go.RowKit
open Go.Proofs.Qw
attribute [local go_sem] Oper.semAt_some
theorem on1g {w : World} {B : Nat} {cs : Array Value} {t : TypeId} (h : w.heap[B]? = some (.cells cs t)) : ∀ X k, (w.alloc X).frozen? ⟨B, k, none⟩ = false := fun X _ => frozen_of_heap (heap_old _ X h)
set_option maxRecDepth 100000 in
set_option maxHeartbeats 8000000 in
theorem awake23_any (w : World) (he : EnvT w) : Calls Tryz.prog 44 #[] w fun e w' => e = .returned (.bool true) ∧ Below w.heap.size w w' := by
  obtain ⟨W1, hW1⟩ : ∃ W1, (((w.alloc (.cells #[.int .i32 97, .int .i64 0, .string ⟨#[]⟩, .int .i32 98, .int .i64 0, .string ⟨#[]⟩] 44)).alloc (.cells #[.int .i64 0] 3)).alloc (.cells #[.int .i64 0, .slice none 0 0, .int .i64 0, .slice (some ⟨w.heap.size, 0, none⟩) 2 2, .int .i64 0, .slice (some ⟨w.heap.size + 1, 0, none⟩) 1 1, .int .i64 0, .slice none 0 0] 42)).alloc (.cells #[.slice (some ⟨w.heap.size + 1 + 1, 0, none⟩) 2 2, .int .i64 0, .int .i64 1, .int .i64 0, .int .i64 1, .int .i64 0, .int .i64 0] 26) = W1 := ⟨_, rfl⟩
  have hB : Below w.heap.size w W1 := hW1 ▸ below1 (below3 (Below.refl _ _) _ _ _) _
  have hz : w.heap.size + 4 = W1.heap.size := by rw [← hW1]; simp
  have k0 : W1.heap[w.heap.size]? = some (.cells #[.int .i32 97, .int .i64 0, .string ⟨#[]⟩, .int .i32 98, .int .i64 0, .string ⟨#[]⟩] 44) := hW1 ▸ heap_old _ _ (heap_old _ _ (heap_old _ _ (heap_new _ _ rfl)))
  have k1 : W1.heap[w.heap.size + 1]? = some (.cells #[.int .i64 0] 3) := hW1 ▸ heap_old _ _ (heap_old _ _ (heap_new _ _ (by simp)))
  have k2 : W1.heap[w.heap.size + 1 + 1]? = some (.cells #[.int .i64 0, .slice none 0 0, .int .i64 0, .slice (some ⟨w.heap.size, 0, none⟩) 2 2, .int .i64 0, .slice (some ⟨w.heap.size + 1, 0, none⟩) 1 1, .int .i64 0, .slice none 0 0] 42) := hW1 ▸ heap_old _ _ (heap_new _ _ (by simp))
  have k3 : W1.heap[w.heap.size + 1 + 1 + 1]? = some (.cells #[.slice (some ⟨w.heap.size + 1 + 1, 0, none⟩) 2 2, .int .i64 0, .int .i64 1, .int .i64 0, .int .i64 1, .int .i64 0, .int .i64 0] 26) := hW1 ▸ heap_new _ _ (by simp)
  have hd0 : LinsR W1 (fun b => b < w.heap.size + 3) (.slice (some ⟨w.heap.size + 1 + 1, 0, none⟩) 2 2) exT0 := by
    refine ⟨_, 2, rfl, Nat.le_refl _, by decide, .inr ⟨w.heap.size + 1 + 1, 0, rfl, (by show w.heap.size + 1 + 1 < w.heap.size + 3; omega), by omega, fun h => (by cases h), fun i x hx => ?_⟩⟩
    match i, hx with
    | 0, hx =>
      cases hx
      exact ⟨[.int .i64 0, .slice none 0 0, .int .i64 0, .slice (some ⟨w.heap.size, 0, none⟩) 2 2], rfl, ⟨.slice none 0 0, _, rfl, SliceR.nil _ _ _ _ _ _, slice_blk (enc := encCel) (fun _ => rfl) [exRc 97, exRc 98] k0 (by show w.heap.size < w.heap.size + 3; omega) (by decide)⟩, fun j u hu => by
        rw [cell_of_heap k2, Nat.zero_mul, Nat.zero_add]
        match j, hu with
        | 0, hu => exact hu
        | 1, hu => exact hu
        | 2, hu => exact hu
        | 3, hu => exact hu⟩
    | 1, hx =>
      cases hx
      exact ⟨[.int .i64 0, .slice (some ⟨w.heap.size + 1, 0, none⟩) 1 1, .int .i64 0, .slice none 0 0], rfl, ⟨_, .slice none 0 0, rfl, slice_blk (enc := encInt) (fun _ => rfl) [0] k1 (by show w.heap.size + 1 < w.heap.size + 3; omega) (by decide), SliceR.nil _ _ _ _ _ _⟩, fun j u hu => by
        rw [cell_of_heap k2]
        match j, hu with
        | 0, hu => exact hu
        | 1, hu => exact hu
        | 2, hu => exact hu
        | 3, hu => exact hu⟩
  have hs1 := hB.size
  have HE : Hid (∀ W, Below w.heap.size w W → EnvT W) := Lib.hid fun W hW => he.below hW
  have HB1 := Lib.hid hB
  have HD1 := Lib.hid hd0
  have HK1 := Lib.hid k3
  have HS1 : Hid (w.heap.size + 4 ≤ W1.heap.size) := Lib.hid (by omega)
  have HW1 := Lib.hid hW1
  have hsm0 := may_small ex0_may
  have hsma := may_small exa_may
  clear he hd0 k0 k1 k2 k3 hB hW1
  go_enter Tryz.func44, Tryz.ntmps44
  go_wp2_with fail
  rw [HW1.out]
  have HC2 : Hid (Calls Tryz.prog 54 #[.agg #[.slice (some ⟨w.heap.size + 1 + 1, 0, none⟩) 2 2, .int .i64 0, .int .i64 1, .int .i64 0, .int .i64 1, .int .i64 0, .int .i64 0], .string ⟨#[120, 121]⟩] W1 (StSaid ((⟨exTa, ⟨0, 3⟩, ⟨0, 3⟩, 0, 0⟩, 0)) W1)) := Lib.hid (by
    have := typText_any (.slice (some ⟨w.heap.size + 1 + 1, 0, none⟩) 2 2) exS1 ⟨#[120, 121]⟩ W1 _ HD1.out (HE.out _ HB1.out) hsm0.1 hsm0.2 (by decide)
    rw [ex_text] at this
    exact this)
  refine HC2.out.mono ?_
  intro e w2 hsaid
  obtain ⟨v2, rfl, hv2, hst2⟩ := hsaid
  obtain ⟨x2, y2, hve2⟩ := hv2.slice
  have hve2 : v2 = .slice x2 2 y2 := hve2
  subst hve2
  have HB20 : Hid (Below w.heap.size w w2) := Lib.hid (below_from HB1.out hst2)
  have HK20 := Lib.hid (heap_below hst2 HK1.out)
  have HD20 := Lib.hid (HD1.out.below (rdLin_stable _) hst2)
  have HS20 := Lib.hid (Nat.le_trans HS1.out hst2.size)
  have HR2_20 := Lib.hid hv2
  clear hv2
  obtain ⟨q2, g2⟩ := blk HK20.out
  have r2 := on1 HK20.out
  have u2 := on1g HK20.out
  have e2 : ¬ w2.heap.size = w.heap.size + 1 + 1 + 1 := by have := HS20.out; omega
  go_upto_region 3 with fail
  obtain ⟨m2, hm2⟩ : ∃ m2, w2.alloc (.cells #[.slice x2 2 y2, .int .i64 0, .int .i64 3, .int .i64 0, .int .i64 3, .int .i64 0, .int .i64 0] 26) = m2 := ⟨_, rfl⟩
  rw [hm2]
  have hbm2 : Below w2.heap.size w2 m2 := hm2 ▸ below1 (Below.refl _ _) _
  have HN2_2 : Hid (m2.heap[w2.heap.size]? = some (.cells #[.slice x2 2 y2, .int .i64 0, .int .i64 3, .int .i64 0, .int .i64 3, .int .i64 0, .int .i64 0] 26)) := Lib.hid (hm2 ▸ heap_new _ _ rfl)
  have HB2 := Lib.hid (below_from HB20.out hbm2)
  have HK2 := Lib.hid (heap_below hbm2 HK20.out)
  have HD2 := Lib.hid (HD20.out.below (rdLin_stable _) hbm2)
  have HS2 := Lib.hid (Nat.le_trans HS20.out hbm2.size)
  have HR2_2 := Lib.hid (HR2_20.out.below hbm2)
  clear hbm2 hm2 q2 g2 r2 u2 e2 hst2
  obtain ⟨j2, l2⟩ := blk HN2_2.out
  go_wp2_with fail
  have HC3 : Hid (Calls Tryz.prog 50 #[.agg #[.slice x2 2 y2, .int .i64 0, .int .i64 3, .int .i64 0, .int .i64 3, .int .i64 0, .int .i64 0]] m2 (StSaid ((⟨exTb, ⟨0, 2⟩, ⟨0, 2⟩, 0, 0⟩, 0)) m2)) := Lib.hid (by
    have := typBack_any _ exSa m2 _ HR2_2.out.read (HE.out _ HB2.out) hsma.1 hsma.2
    rw [ex_back] at this
    exact this)
  refine HC3.out.mono ?_
  intro e w3 hsaid
  obtain ⟨v3, rfl, hv3, hst3⟩ := hsaid
  obtain ⟨x3, y3, hve3⟩ := hv3.slice
  have hve3 : v3 = .slice x3 2 y3 := hve3
  subst hve3
  have HB30 : Hid (Below w.heap.size w w3) := Lib.hid (below_from HB2.out hst3)
  have HK30 := Lib.hid (heap_below hst3 HK2.out)
  have HD30 := Lib.hid (HD2.out.below (rdLin_stable _) hst3)
  have HS30 := Lib.hid (Nat.le_trans HS2.out hst3.size)
  have HR3_30 := Lib.hid hv3
  have HR2_30 := Lib.hid (HR2_2.out.below hst3)
  have HN2_30 := Lib.hid (heap_below hst3 HN2_2.out)
  clear hv3
  obtain ⟨q3, g3⟩ := blk HK30.out
  have r3 := on1 HK30.out
  have u3 := on1g HK30.out
  have e3 : ¬ w3.heap.size = w.heap.size + 1 + 1 + 1 := by have := HS30.out; omega
  go_upto_region 4 with fail
  obtain ⟨m3, hm3⟩ : ∃ m3, w3.alloc (.cells #[.slice x3 2 y3, .int .i64 0, .int .i64 2, .int .i64 0, .int .i64 2, .int .i64 0, .int .i64 0] 26) = m3 := ⟨_, rfl⟩
  rw [hm3]
  have hbm3 : Below w3.heap.size w3 m3 := hm3 ▸ below1 (Below.refl _ _) _
  have HN3_3 : Hid (m3.heap[w3.heap.size]? = some (.cells #[.slice x3 2 y3, .int .i64 0, .int .i64 2, .int .i64 0, .int .i64 2, .int .i64 0, .int .i64 0] 26)) := Lib.hid (hm3 ▸ heap_new _ _ rfl)
  have HB3 := Lib.hid (below_from HB30.out hbm3)
  have HK3 := Lib.hid (heap_below hbm3 HK30.out)
  have HD3 := Lib.hid (HD30.out.below (rdLin_stable _) hbm3)
  have HS3 := Lib.hid (Nat.le_trans HS30.out hbm3.size)
  have HR3_3 := Lib.hid (HR3_30.out.below hbm3)
  have HR2_3 := Lib.hid (HR2_30.out.below hbm3)
  have HN2_3 := Lib.hid (heap_below hbm3 HN2_30.out)
  clear hbm3 hm3 q3 g3 r3 u3 e3 hst3
  clear j2 l2
  obtain ⟨j3, l3⟩ := blk HK3.out
  go_wp2_with fail
  have HC4 : Hid (Calls Tryz.prog 48 #[.agg #[.slice (some ⟨w.heap.size + 1 + 1, 0, none⟩) 2 2, .int .i64 0, .int .i64 1, .int .i64 0, .int .i64 1, .int .i64 0, .int .i64 0]] m3 (StSaid ((⟨exTc, ⟨1, 0⟩, ⟨1, 0⟩, 0, 0⟩, 0)) m3)) := Lib.hid (by
    have := typParagraph_any (.slice (some ⟨w.heap.size + 1 + 1, 0, none⟩) 2 2) exS1 m3 _ HD3.out (HE.out _ HB3.out) hsm0.1 hsm0.2
    rw [ex_para] at this
    exact this)
  refine HC4.out.mono ?_
  intro e w4 hsaid
  obtain ⟨v4, rfl, hv4, hst4⟩ := hsaid
  obtain ⟨x4, y4, hve4⟩ := hv4.slice
  have hve4 : v4 = .slice x4 3 y4 := hve4
  subst hve4
  have HB40 : Hid (Below w.heap.size w w4) := Lib.hid (below_from HB3.out hst4)
  have HK40 := Lib.hid (heap_below hst4 HK3.out)
  have HD40 := Lib.hid (HD3.out.below (rdLin_stable _) hst4)
  have HS40 := Lib.hid (Nat.le_trans HS3.out hst4.size)
  have HR4_40 := Lib.hid hv4
  have HR2_40 := Lib.hid (HR2_3.out.below hst4)
  have HN2_40 := Lib.hid (heap_below hst4 HN2_3.out)
  have HR3_40 := Lib.hid (HR3_3.out.below hst4)
  have HN3_40 := Lib.hid (heap_below hst4 HN3_3.out)
  clear hv4
  obtain ⟨q4, g4⟩ := blk HK40.out
  have r4 := on1 HK40.out
  have u4 := on1g HK40.out
  have e4 : ¬ w4.heap.size = w.heap.size + 1 + 1 + 1 := by have := HS40.out; omega
  go_upto_region 5 with fail
  obtain ⟨m4, hm4⟩ : ∃ m4, w4.alloc (.cells #[.slice x4 3 y4, .int .i64 1, .int .i64 0, .int .i64 1, .int .i64 0, .int .i64 0, .int .i64 0] 26) = m4 := ⟨_, rfl⟩
  rw [hm4]
  have hbm4 : Below w4.heap.size w4 m4 := hm4 ▸ below1 (Below.refl _ _) _
  have HN4_4 : Hid (m4.heap[w4.heap.size]? = some (.cells #[.slice x4 3 y4, .int .i64 1, .int .i64 0, .int .i64 1, .int .i64 0, .int .i64 0, .int .i64 0] 26)) := Lib.hid (hm4 ▸ heap_new _ _ rfl)
  have HB4 := Lib.hid (below_from HB40.out hbm4)
  have HK4 := Lib.hid (heap_below hbm4 HK40.out)
  have HD4 := Lib.hid (HD40.out.below (rdLin_stable _) hbm4)
  have HS4 := Lib.hid (Nat.le_trans HS40.out hbm4.size)
  have HR4_4 := Lib.hid (HR4_40.out.below hbm4)
  have HR2_4 := Lib.hid (HR2_40.out.below hbm4)
  have HN2_4 := Lib.hid (heap_below hbm4 HN2_40.out)
  have HR3_4 := Lib.hid (HR3_40.out.below hbm4)
  have HN3_4 := Lib.hid (heap_below hbm4 HN3_40.out)
  clear hbm4 hm4 q4 g4 r4 u4 e4 hst4
  clear j3 l3
  obtain ⟨j4, l4⟩ := blk HK4.out
  go_upto_region 6 with fail
  obtain ⟨m5, hm5⟩ : ∃ m5, ((m4).setCell ⟨w.heap.size + 1 + 1 + 1, 3, none⟩ (.int .i64 1)).setCell ⟨w.heap.size + 1 + 1 + 1, 4, none⟩ (.int .i64 0) = m5 := ⟨_, rfl⟩
  rw [hm5]
  have o5 : ∀ k, k ≠ w.heap.size + 1 + 1 + 1 → m5.heap[k]? = m4.heap[k]? := fun k hk => by rw [← hm5, heap_set, if_neg (Ne.symm hk), heap_set, if_neg (Ne.symm hk)]
  have z5 : m5.heap.size = m4.heap.size := by rw [← hm5]; simp
  have HB5 : Hid (Below w.heap.size w m5) := Lib.hid (hm5 ▸ (HB4.out.setCell (by show w.heap.size ≤ w.heap.size + 1 + 1 + 1; omega) _).setCell (by show w.heap.size ≤ w.heap.size + 1 + 1 + 1; omega) _)
  have HK5 : Hid (m5.heap[w.heap.size + 1 + 1 + 1]? = some (.cells #[.slice (some ⟨w.heap.size + 1 + 1, 0, none⟩) 2 2, .int .i64 0, .int .i64 1, .int .i64 1, .int .i64 0, .int .i64 0, .int .i64 0] 26)) := Lib.hid (by rw [← hm5, heap_set, if_pos rfl, heap_set, if_pos rfl, HK4.out]; rfl)
  have HD5 := Lib.hid (SliceR.stable (rdLin_stable false) HD4.out ⟨by omega, fun b hb _ => o5 b (by have hb : b < w.heap.size + 3 := hb; omega)⟩ (fun b h _ => h))
  have HS5 : Hid (w.heap.size + 4 ≤ m5.heap.size) := Lib.hid (by have := HS4.out; omega)
  have HR2_5 : Hid (DocR true m5 (fun b => W1.heap.size ≤ b) (.slice x2 2 y2) (exTa)) := Lib.hid (SliceR.stable (rdLin_stable true) HR2_4.out ⟨by omega, fun b hb _ => o5 b (by have hb : W1.heap.size ≤ b := hb; have := HS1.out; omega)⟩ (fun b h _ => h))
  have HN2_5 := Lib.hid ((o5 w2.heap.size (by have := HS20.out; omega)).trans HN2_4.out)
  have HR3_5 : Hid (DocR true m5 (fun b => m2.heap.size ≤ b) (.slice x3 2 y3) (exTb)) := Lib.hid (SliceR.stable (rdLin_stable true) HR3_4.out ⟨by omega, fun b hb _ => o5 b (by have hb : m2.heap.size ≤ b := hb; have := HS2.out; omega)⟩ (fun b h _ => h))
  have HN3_5 := Lib.hid ((o5 w3.heap.size (by have := HS30.out; omega)).trans HN3_4.out)
  have HR4_5 : Hid (DocR true m5 (fun b => m3.heap.size ≤ b) (.slice x4 3 y4) (exTc)) := Lib.hid (SliceR.stable (rdLin_stable true) HR4_4.out ⟨by omega, fun b hb _ => o5 b (by have hb : m3.heap.size ≤ b := hb; have := HS3.out; omega)⟩ (fun b h _ => h))
  have HN4_5 := Lib.hid ((o5 w4.heap.size (by have := HS40.out; omega)).trans HN4_4.out)
  clear hm5 o5 z5
  clear j4 l4
  obtain ⟨j5, l5⟩ := blk HK5.out
  go_wp2_with fail
  have HC6 : Hid (Calls Tryz.prog 45 #[.agg #[.slice (some ⟨w.heap.size + 1 + 1, 0, none⟩) 2 2, .int .i64 0, .int .i64 1, .int .i64 1, .int .i64 0, .int .i64 0, .int .i64 0]] m5 (StSaid ((⟨exTd, ⟨0, 1⟩, ⟨0, 1⟩, 0, 0⟩, 0)) m5)) := Lib.hid (by
    have := typErase_any (.slice (some ⟨w.heap.size + 1 + 1, 0, none⟩) 2 2) exS2 m5 _ HD5.out (HE.out _ HB5.out) hsm0.1 hsm0.2
    rw [ex_erase] at this
    exact this)
  refine HC6.out.mono ?_
  intro e w6 hsaid
  obtain ⟨v6, rfl, hv6, hst6⟩ := hsaid
  obtain ⟨x6, y6, hve6⟩ := hv6.slice
  have hve6 : v6 = .slice x6 1 y6 := hve6
  subst hve6
  have HB60 : Hid (Below w.heap.size w w6) := Lib.hid (below_from HB5.out hst6)
  have HK60 := Lib.hid (heap_below hst6 HK5.out)
  have HD60 := Lib.hid (HD5.out.below (rdLin_stable _) hst6)
  have HS60 := Lib.hid (Nat.le_trans HS5.out hst6.size)
  have HR6_60 := Lib.hid hv6
  have HR2_60 := Lib.hid (HR2_5.out.below hst6)
  have HN2_60 := Lib.hid (heap_below hst6 HN2_5.out)
  have HR3_60 := Lib.hid (HR3_5.out.below hst6)
  have HN3_60 := Lib.hid (heap_below hst6 HN3_5.out)
  have HR4_60 := Lib.hid (HR4_5.out.below hst6)
  have HN4_60 := Lib.hid (heap_below hst6 HN4_5.out)
  clear hv6
  obtain ⟨q6, g6⟩ := blk HK60.out
  have r6 := on1 HK60.out
  have u6 := on1g HK60.out
  have e6 : ¬ w6.heap.size = w.heap.size + 1 + 1 + 1 := by have := HS60.out; omega
  go_upto_region 7 with fail
  obtain ⟨m6, hm6⟩ : ∃ m6, w6.alloc (.cells #[.slice x6 1 y6, .int .i64 0, .int .i64 1, .int .i64 0, .int .i64 1, .int .i64 0, .int .i64 0] 26) = m6 := ⟨_, rfl⟩
  rw [hm6]
  have hbm6 : Below w6.heap.size w6 m6 := hm6 ▸ below1 (Below.refl _ _) _
  have HN6_6 : Hid (m6.heap[w6.heap.size]? = some (.cells #[.slice x6 1 y6, .int .i64 0, .int .i64 1, .int .i64 0, .int .i64 1, .int .i64 0, .int .i64 0] 26)) := Lib.hid (hm6 ▸ heap_new _ _ rfl)
  have HB6 := Lib.hid (below_from HB60.out hbm6)
  have HK6 := Lib.hid (heap_below hbm6 HK60.out)
  have HD6 := Lib.hid (HD60.out.below (rdLin_stable _) hbm6)
  have HS6 := Lib.hid (Nat.le_trans HS60.out hbm6.size)
  have HR6_6 := Lib.hid (HR6_60.out.below hbm6)
  have HR2_6 := Lib.hid (HR2_60.out.below hbm6)
  have HN2_6 := Lib.hid (heap_below hbm6 HN2_60.out)
  have HR3_6 := Lib.hid (HR3_60.out.below hbm6)
  have HN3_6 := Lib.hid (heap_below hbm6 HN3_60.out)
  have HR4_6 := Lib.hid (HR4_60.out.below hbm6)
  have HN4_6 := Lib.hid (heap_below hbm6 HN4_60.out)
  clear hbm6 hm6 q6 g6 r6 u6 e6 hst6
  clear j5 l5
  obtain ⟨j6, l6⟩ := blk HK6.out
  go_upto_region 8 with fail
  obtain ⟨m7, hm7⟩ : ∃ m7, ((m6).setCell ⟨w.heap.size + 1 + 1 + 1, 1, none⟩ (.int .i64 1)).setCell ⟨w.heap.size + 1 + 1 + 1, 2, none⟩ (.int .i64 0) = m7 := ⟨_, rfl⟩
  rw [hm7]
  have o7 : ∀ k, k ≠ w.heap.size + 1 + 1 + 1 → m7.heap[k]? = m6.heap[k]? := fun k hk => by rw [← hm7, heap_set, if_neg (Ne.symm hk), heap_set, if_neg (Ne.symm hk)]
  have z7 : m7.heap.size = m6.heap.size := by rw [← hm7]; simp
  have HB7 : Hid (Below w.heap.size w m7) := Lib.hid (hm7 ▸ (HB6.out.setCell (by show w.heap.size ≤ w.heap.size + 1 + 1 + 1; omega) _).setCell (by show w.heap.size ≤ w.heap.size + 1 + 1 + 1; omega) _)
  have HK7 : Hid (m7.heap[w.heap.size + 1 + 1 + 1]? = some (.cells #[.slice (some ⟨w.heap.size + 1 + 1, 0, none⟩) 2 2, .int .i64 1, .int .i64 0, .int .i64 1, .int .i64 0, .int .i64 0, .int .i64 0] 26)) := Lib.hid (by rw [← hm7, heap_set, if_pos rfl, heap_set, if_pos rfl, HK6.out]; rfl)
  have HD7 := Lib.hid (SliceR.stable (rdLin_stable false) HD6.out ⟨by omega, fun b hb _ => o7 b (by have hb : b < w.heap.size + 3 := hb; omega)⟩ (fun b h _ => h))
  have HS7 : Hid (w.heap.size + 4 ≤ m7.heap.size) := Lib.hid (by have := HS6.out; omega)
  have HR2_7 : Hid (DocR true m7 (fun b => W1.heap.size ≤ b) (.slice x2 2 y2) (exTa)) := Lib.hid (SliceR.stable (rdLin_stable true) HR2_6.out ⟨by omega, fun b hb _ => o7 b (by have hb : W1.heap.size ≤ b := hb; have := HS1.out; omega)⟩ (fun b h _ => h))
  have HN2_7 := Lib.hid ((o7 w2.heap.size (by have := HS20.out; omega)).trans HN2_6.out)
  have HR3_7 : Hid (DocR true m7 (fun b => m2.heap.size ≤ b) (.slice x3 2 y3) (exTb)) := Lib.hid (SliceR.stable (rdLin_stable true) HR3_6.out ⟨by omega, fun b hb _ => o7 b (by have hb : m2.heap.size ≤ b := hb; have := HS2.out; omega)⟩ (fun b h _ => h))
  have HN3_7 := Lib.hid ((o7 w3.heap.size (by have := HS30.out; omega)).trans HN3_6.out)
  have HR4_7 : Hid (DocR true m7 (fun b => m3.heap.size ≤ b) (.slice x4 3 y4) (exTc)) := Lib.hid (SliceR.stable (rdLin_stable true) HR4_6.out ⟨by omega, fun b hb _ => o7 b (by have hb : m3.heap.size ≤ b := hb; have := HS3.out; omega)⟩ (fun b h _ => h))
  have HN4_7 := Lib.hid ((o7 w4.heap.size (by have := HS40.out; omega)).trans HN4_6.out)
  have HR6_7 : Hid (DocR true m7 (fun b => m5.heap.size ≤ b) (.slice x6 1 y6) (exTd)) := Lib.hid (SliceR.stable (rdLin_stable true) HR6_6.out ⟨by omega, fun b hb _ => o7 b (by have hb : m5.heap.size ≤ b := hb; have := HS5.out; omega)⟩ (fun b h _ => h))
  have HN6_7 := Lib.hid ((o7 w6.heap.size (by have := HS60.out; omega)).trans HN6_6.out)
  clear hm7 o7 z7
  clear j6 l6
  obtain ⟨j7, l7⟩ := blk HK7.out
  go_wp2_with fail
  have HC8 : Hid (Calls Tryz.prog 48 #[.agg #[.slice (some ⟨w.heap.size + 1 + 1, 0, none⟩) 2 2, .int .i64 1, .int .i64 0, .int .i64 1, .int .i64 0, .int .i64 0, .int .i64 0]] m7 (StSaid ((⟨exTp, ⟨1, 0⟩, ⟨1, 0⟩, 0, 0⟩, 0)) m7)) := Lib.hid (by
    have := typParagraph_any (.slice (some ⟨w.heap.size + 1 + 1, 0, none⟩) 2 2) exS3 m7 _ HD7.out (HE.out _ HB7.out) hsm0.1 hsm0.2
    rw [ex_out] at this
    exact this)
  refine HC8.out.mono ?_
  intro e w8 hsaid
  obtain ⟨v8, rfl, hv8, hst8⟩ := hsaid
  obtain ⟨x8, y8, hve8⟩ := hv8.slice
  have hve8 : v8 = .slice x8 2 y8 := hve8
  subst hve8
  have HB80 : Hid (Below w.heap.size w w8) := Lib.hid (below_from HB7.out hst8)
  have HK80 := Lib.hid (heap_below hst8 HK7.out)
  have HD80 := Lib.hid (HD7.out.below (rdLin_stable _) hst8)
  have HS80 := Lib.hid (Nat.le_trans HS7.out hst8.size)
  have HR8_80 := Lib.hid hv8
  have HR2_80 := Lib.hid (HR2_7.out.below hst8)
  have HN2_80 := Lib.hid (heap_below hst8 HN2_7.out)
  have HR3_80 := Lib.hid (HR3_7.out.below hst8)
  have HN3_80 := Lib.hid (heap_below hst8 HN3_7.out)
  have HR4_80 := Lib.hid (HR4_7.out.below hst8)
  have HN4_80 := Lib.hid (heap_below hst8 HN4_7.out)
  have HR6_80 := Lib.hid (HR6_7.out.below hst8)
  have HN6_80 := Lib.hid (heap_below hst8 HN6_7.out)
  clear hv8
  obtain ⟨q8, g8⟩ := blk HK80.out
  have r8 := on1 HK80.out
  have u8 := on1g HK80.out
  have e8 : ¬ w8.heap.size = w.heap.size + 1 + 1 + 1 := by have := HS80.out; omega
  go_upto_region 9 with fail
  obtain ⟨m8, hm8⟩ : ∃ m8, w8.alloc (.cells #[.slice x8 2 y8, .int .i64 1, .int .i64 0, .int .i64 1, .int .i64 0, .int .i64 0, .int .i64 0] 26) = m8 := ⟨_, rfl⟩
  rw [hm8]
  have hbm8 : Below w8.heap.size w8 m8 := hm8 ▸ below1 (Below.refl _ _) _
  have HN8_8 : Hid (m8.heap[w8.heap.size]? = some (.cells #[.slice x8 2 y8, .int .i64 1, .int .i64 0, .int .i64 1, .int .i64 0, .int .i64 0, .int .i64 0] 26)) := Lib.hid (hm8 ▸ heap_new _ _ rfl)
  have HB8 := Lib.hid (below_from HB80.out hbm8)
  have HK8 := Lib.hid (heap_below hbm8 HK80.out)
  have HD8 := Lib.hid (HD80.out.below (rdLin_stable _) hbm8)
  have HS8 := Lib.hid (Nat.le_trans HS80.out hbm8.size)
  have HR8_8 := Lib.hid (HR8_80.out.below hbm8)
  have HR2_8 := Lib.hid (HR2_80.out.below hbm8)
  have HN2_8 := Lib.hid (heap_below hbm8 HN2_80.out)
  have HR3_8 := Lib.hid (HR3_80.out.below hbm8)
  have HN3_8 := Lib.hid (heap_below hbm8 HN3_80.out)
  have HR4_8 := Lib.hid (HR4_80.out.below hbm8)
  have HN4_8 := Lib.hid (heap_below hbm8 HN4_80.out)
  have HR6_8 := Lib.hid (HR6_80.out.below hbm8)
  have HN6_8 := Lib.hid (heap_below hbm8 HN6_80.out)
  clear hbm8 hm8 q8 g8 r8 u8 e8 hst8
  clear j7 l7
  obtain ⟨j8, l8⟩ := blk HK8.out
  go_wp2_with fail
  have HC9 : Hid (Calls Tryz.prog 52 #[.agg #[.slice (some ⟨w.heap.size + 1 + 1, 0, none⟩) 2 2, .int .i64 1, .int .i64 0, .int .i64 1, .int .i64 0, .int .i64 0, .int .i64 0]] m8 (StSaid ((⟨[], ⟨0, 0⟩, ⟨0, 0⟩, 0, 0⟩, 7)) m8)) := Lib.hid (by
    have := typForth_any (.slice (some ⟨w.heap.size + 1 + 1, 0, none⟩) 2 2) exS3 m8 _ HD8.out (HE.out _ HB8.out) hsm0.1 hsm0.2
    rw [ex_forth] at this
    exact this)
  refine HC9.out.mono ?_
  intro e w9 hsaid
  obtain ⟨v9, rfl, hv9, hst9⟩ := hsaid
  obtain ⟨x9, y9, hve9⟩ := hv9.slice
  have hve9 : v9 = .slice x9 0 y9 := hve9
  subst hve9
  have HB90 : Hid (Below w.heap.size w w9) := Lib.hid (below_from HB8.out hst9)
  have HK90 := Lib.hid (heap_below hst9 HK8.out)
  have HD90 := Lib.hid (HD8.out.below (rdLin_stable _) hst9)
  have HS90 := Lib.hid (Nat.le_trans HS8.out hst9.size)
  have HR9_90 := Lib.hid hv9
  have HR2_90 := Lib.hid (HR2_8.out.below hst9)
  have HN2_90 := Lib.hid (heap_below hst9 HN2_8.out)
  have HR3_90 := Lib.hid (HR3_8.out.below hst9)
  have HN3_90 := Lib.hid (heap_below hst9 HN3_8.out)
  have HR4_90 := Lib.hid (HR4_8.out.below hst9)
  have HN4_90 := Lib.hid (heap_below hst9 HN4_8.out)
  have HR6_90 := Lib.hid (HR6_8.out.below hst9)
  have HN6_90 := Lib.hid (heap_below hst9 HN6_8.out)
  have HR8_90 := Lib.hid (HR8_8.out.below hst9)
  have HN8_90 := Lib.hid (heap_below hst9 HN8_8.out)
  clear hv9
  obtain ⟨q9, g9⟩ := blk HK90.out
  have r9 := on1 HK90.out
  have u9 := on1g HK90.out
  have e9 : ¬ w9.heap.size = w.heap.size + 1 + 1 + 1 := by have := HS90.out; omega
  go_upto_region 10 with fail
  obtain ⟨m9, hm9⟩ : ∃ m9, w9.alloc (.cells #[.slice x9 0 y9, .int .i64 0, .int .i64 0, .int .i64 0, .int .i64 0, .int .i64 0, .int .i64 0] 26) = m9 := ⟨_, rfl⟩
  rw [hm9]
  have hbm9 : Below w9.heap.size w9 m9 := hm9 ▸ below1 (Below.refl _ _) _
  have HN9_9 : Hid (m9.heap[w9.heap.size]? = some (.cells #[.slice x9 0 y9, .int .i64 0, .int .i64 0, .int .i64 0, .int .i64 0, .int .i64 0, .int .i64 0] 26)) := Lib.hid (hm9 ▸ heap_new _ _ rfl)
  have HB9 := Lib.hid (below_from HB90.out hbm9)
  have HK9 := Lib.hid (heap_below hbm9 HK90.out)
  have HD9 := Lib.hid (HD90.out.below (rdLin_stable _) hbm9)
  have HS9 := Lib.hid (Nat.le_trans HS90.out hbm9.size)
  have HR9_9 := Lib.hid (HR9_90.out.below hbm9)
  have HR2_9 := Lib.hid (HR2_90.out.below hbm9)
  have HN2_9 := Lib.hid (heap_below hbm9 HN2_90.out)
  have HR3_9 := Lib.hid (HR3_90.out.below hbm9)
  have HN3_9 := Lib.hid (heap_below hbm9 HN3_90.out)
  have HR4_9 := Lib.hid (HR4_90.out.below hbm9)
  have HN4_9 := Lib.hid (heap_below hbm9 HN4_90.out)
  have HR6_9 := Lib.hid (HR6_90.out.below hbm9)
  have HN6_9 := Lib.hid (heap_below hbm9 HN6_90.out)
  have HR8_9 := Lib.hid (HR8_90.out.below hbm9)
  have HN8_9 := Lib.hid (heap_below hbm9 HN8_90.out)
  clear hbm9 hm9 q9 g9 r9 u9 e9 hst9
  clear j8 l8
  obtain ⟨q2, g2⟩ := blk HN2_9.out
  obtain ⟨q3, g3⟩ := blk HN3_9.out
  obtain ⟨q4, g4⟩ := blk HN4_9.out
  obtain ⟨q6, g6⟩ := blk HN6_9.out
  obtain ⟨q8, g8⟩ := blk HN8_9.out
  obtain ⟨a', c', ee, h2, h3, hx2⟩ := lins_shape HR2_9.out.read
  have ee : Value.slice x2 2 y2 = .slice a' 2 c' := ee
  injection ee with e1 e2 e3
  subst e1 e3
  obtain ⟨b2, o2, la2, lc2, ca2, cc2, hb2, hA2⟩ := hx2 0 ⟨0, [], 0, [exRc 97, exRc 120, exRc 121, exRc 98]⟩ rfl
  subst hb2
  obtain ⟨_, _, _, _, d3, _, _⟩ := hA2
  rw [Nat.zero_mul, Nat.add_zero] at d3
  simp only [List.length_cons, List.length_nil, Nat.zero_add, Nat.reduceAdd] at d3
  obtain ⟨a8', c8', ee8, h28, h38, hx8⟩ := lins_shape HR8_9.out.read
  have ee8 : Value.slice x8 2 y8 = .slice a8' 2 c8' := ee8
  injection ee8 with e1 e2 e3
  subst e1 e3
  obtain ⟨b8, o8, la8, lc8, ca8, cc8, hb8, hA8⟩ := hx8 1 ⟨0, [], 0, []⟩ rfl
  subst hb8
  obtain ⟨_, _, d8, _, _, _, _⟩ := hA8
  rw [Nat.one_mul] at d8
  simp only [List.length_nil] at d8
  have h2 : 2 ≤ y2 := h2
  have h28 : 2 ≤ y8 := h28
  unfold maxLen at h3 h38
  have hg := guardPos
  have hq := fun (w : World) => run_eql_pos ⟨1, 0⟩ ⟨1, 0⟩ w
  rw [decide_eq_true rfl] at hq
  clear hx2 hx8 e2 hsm0 hsma
  go_wp2_with fail
  go_ret
  exact ⟨rfl, HB9.out⟩
end Go.Proofs.YtpndnbjpnajaaaaGreatDoor
namespace Go.Proofs.YtpndnbjpnajaaaaGreatDoor
open Go.RowKit
open Go.Proofs.Qw
set_option maxRecDepth 100000 in
set_option maxHeartbeats 4000000 in
theorem stSame_any (v u : Value) (s t : St) (w : World) (S1 S2 : Nat → Prop) (h1 : LinsR w S1 v s.lines) (h2 : LinsR w S2 u t.lines) :
    Calls Tryz.prog 67 #[stV v s, stV u t] w fun e w' => e = .returned (.bool (decide (s = t))) ∧ Below w.heap.size w w' := by
  obtain ⟨W1, hW1, hB, hz, k0, k1⟩ := st_both w v u s t
  have hs1 := hB.size
  have HC := Lib.hid (docSame_any v u s.lines t.lines W1 S1 S2 (h1.below (rdLin_stable _) hB) (h2.below (rdLin_stable _) hB))
  have HB : Hid (∀ W, Below W1.heap.size W1 W → W.heap[w.heap.size]? = some (.cells #[v, .int .i64 s.anc.line, .int .i64 s.anc.col, .int .i64 s.foc.line, .int .i64 s.foc.col, .int .i64 s.on, .int .i64 s.off] 26) ∧ W.heap[w.heap.size + 1]? = some (.cells #[u, .int .i64 t.anc.line, .int .i64 t.anc.col, .int .i64 t.foc.line, .int .i64 t.foc.col, .int .i64 t.on, .int .i64 t.off] 26)) := Lib.hid fun W hW => ⟨heap_below hW k0, heap_below hW k1⟩
  have HE : Hid (decide (s = t) = (decide (s.lines = t.lines) && (decide (s.anc = t.anc) && (decide (s.foc = t.foc) && ((s.on == t.on) && (s.off == t.off)))))) := Lib.hid (by
    obtain ⟨a1, a2, a3, a4, a5⟩ := s
    obtain ⟨b1, b2, b3, b4, b5⟩ := t
    rw [Bool.eq_iff_iff]
    simp)
  have hg := guardPos
  have hq1 := fun (w : World) => run_eql_pos s.anc t.anc w
  have hq2 := fun (w : World) => run_eql_pos s.foc t.foc w
  have H1 := Lib.hid hB
  obtain ⟨p0, f0⟩ := blk k0
  obtain ⟨p1, f1⟩ := blk k1
  obtain ⟨va, vc, rfl⟩ := h1.slice
  obtain ⟨ua, uc, rfl⟩ := h2.slice
  clear h1 h2 k0 k1 hB
  generalize decide (s = t) = r at *
  generalize decide (s.lines = t.lines) = x at *
  generalize decide (s.anc = t.anc) = y at *
  generalize decide (s.foc = t.foc) = z at *
  cases y
  all_goals
    cases z
    all_goals
      go_enter Tryz.func67, Tryz.ntmps67
      go_wp2_with (go_at_call 143; refine HC.out.mono ?_; rintro e w2 ⟨rfl, hb2⟩; obtain ⟨q0, g0⟩ := blk (HB.out _ hb2).1; obtain ⟨q1, g1⟩ := blk (HB.out _ hb2).2; cases x)
      all_goals
        go_ret
        refine ⟨?_, H1.out.trans (hb2.mono hs1)⟩
        rw [HE.out]
        refine congrArg Ending.returned (congrArg Value.bool ?_)
        clear HE HC HB H1
        simp (config := { failIfUnchanged := false }) [*]
end Go.Proofs.YtpndnbjpnajaaaaGreatDoor
namespace Go.Proofs.YtpndnbjpnajaaaaGreatDoor
open Go.RowKit
open Go.Proofs.Qw
theorem long24_any (v : Value) (s : St) (w : World) (S : Nat → Prop) (h : LinsR w S v s.lines) (hs : Sane s.lines) :
    Calls Tryz.prog 17 #[stV v s] w (LongSaid s.lines w) := by
  obtain ⟨W1, hW1, hB, hz, k0⟩ := one_st w v s
  have HC := Lib.hid (refLong_any v s.lines W1 S (h.below (rdLin_stable _) hB) hs)
  have H1 := Lib.hid hB
  have hs1 := hB.size
  obtain ⟨p0, f0⟩ := blk k0
  obtain ⟨va, vc, rfl⟩ := h.slice
  clear h hs k0 hB
  go_enter Tryz.func17, Tryz.ntmps17
  go_wp2_with (go_at_call 74; refine HC.out.mono ?_; rintro e w1 ⟨r, rfl, hr, hb⟩)
  go_ret
  exact ⟨r, rfl, hr, H1.out.trans (hb.mono hs1)⟩
end Go.Proofs.YtpndnbjpnajaaaaGreatDoor
namespace Go.Proofs.Qw
open Go.RowKit Go.Proofs.YtpndnbjpnajaaaaGreatDoor
theorem keyok_may {X : St} (h : KeyOk (X, 0)) : mayS X = true := by
  rcases h with ⟨_, D, p, h2, h3, h4⟩ | ⟨_, h⟩
  · simp only at h2
    rw [h2]
    exact closed_may h3 h4
  · rcases h with h | h <;> cases h
theorem keyok_of {x : St × Int} {X : St} (h : KeyOk x) (e : x = (X, 0)) : mayS X = true := keyok_may (e ▸ h)
theorem closed_rng' (d : Doc) (p : Ps) : RngS (closedS d p) := ⟨⟨Int.le_refl 0, (by decide : (0 : Int) ≤ 15)⟩, ⟨Int.le_refl 0, (by decide : (0 : Int) ≤ 15)⟩⟩
end Go.Proofs.Qw
namespace Go.Proofs.YtpndnbjpnajaaaaGreatDoor
open Go.RowKit
open Go.Proofs.Qw
attribute [local go_sem] Oper.semAt_some
theorem long23_any (v : Value) (s : St) (w : World) (S : Nat → Prop) (h : LinsR w S v s.lines) (hs : Sane s.lines) :
    Calls Tryz.prog 43 #[stV v s] w (LongSaid s.lines w) := by
  obtain ⟨W1, hW1, hB, hz, k0⟩ := one_st w v s
  have HC := Lib.hid (refLong_any v s.lines W1 S (h.below (rdLin_stable _) hB) hs)
  have H1 := Lib.hid hB
  have hs1 := hB.size
  obtain ⟨p0, f0⟩ := blk k0
  obtain ⟨va, vc, rfl⟩ := h.slice
  clear h hs k0 hB
  go_enter Tryz.func43, Tryz.ntmps43
  go_wp2_with (go_at_call 74; refine HC.out.mono ?_; rintro e w1 ⟨r, rfl, hr, hb⟩)
  go_ret
  exact ⟨r, rfl, hr, H1.out.trans (hb.mono hs1)⟩
theorem lins_but {w : World} {n B : Nat} {v : Value} {d : Doc} (h : DocR true w (fun b => n ≤ b) v d) (hB : B < n) : LinsR w (fun b => ¬ b = B) v d :=
  SliceR.stable (rdLin_stable false) h.read (Keeps.refl _ _) (fun b hb _ => by have hb : n ≤ b := hb; omega)
theorem lins_set {w W : World} {B : Nat} {v : Value} {d : Doc} (h : LinsR w (fun b => ¬ b = B) v d) (hk : ∀ k, k ≠ B → W.heap[k]? = w.heap[k]?) (hz : W.heap.size = w.heap.size) : LinsR W (fun b => ¬ b = B) v d :=
  SliceR.stable (rdLin_stable false) h ⟨Nat.le_of_eq hz.symm, fun b hb _ => hk b hb⟩ (fun b h _ => h)
end Go.Proofs.YtpndnbjpnajaaaaGreatDoor
namespace Go.Proofs.Qw
open Go.RowKit Go.Proofs.YtpndnbjpnajaaaaGreatDoor
theorem each_thrice {F G : Cel → Cel} (hF : ∀ c, mayC c = true → mayC (F c) = true) (hG : ∀ c, mayC c = true → mayC (G c) = true) (hFG : ∀ c, mayC c = true → F (G (F c)) = F c) {d : Doc} {a b : Ps} {X Y Z : Doc}
    (h1 : eachD (fun cs i j => mapIn F i j cs) d a b = (X, 0)) (h2 : eachD (fun cs i j => mapIn G i j cs) X a b = (Y, 0)) (h3 : eachD (fun cs i j => mapIn F i j cs) Y a b = (Z, 0)) : Z = X := by
  obtain ⟨s1, _, e1⟩ := each_ok h1
  obtain ⟨s2, _, e2⟩ := each_ok h2
  obtain ⟨s3, _, e3⟩ := each_ok h3
  obtain ⟨hM, i, j, p, q, l, m, rfl, rfl, hl1, hm1, hp, hq, hij, hpq⟩ := span_at s1
  have hj := (List.getElem?_eq_some_iff.1 hm1).1
  simp only [Int.toNat_natCast] at e1 e2 e3
  have eX : ∀ k, X[k]? = (d[k]?).map (lineF F i p j q k) := fun k => by
    rw [e1]; exact setRows_get hj hij k
  have hXl : X.length = d.length := by
    have H := each_keeps hF h1
    exact H.2.2.2.1.1.symm
  have hYl : Y.length = X.length := (each_keeps hG h2).2.2.2.1.1.symm
  have eY : ∀ k, Y[k]? = (X[k]?).map (lineF G i p j q k) := fun k => by
    rw [e2]; exact setRows_get (by omega) hij k
  have eZ : ∀ k, Z[k]? = (Y[k]?).map (lineF F i p j q k) := fun k => by
    rw [e3]; exact setRows_get (by omega) hij k
  refine List.ext_getElem? fun k => ?_
  rw [eZ, eY, eX]
  cases hk : d[k]? with
  | none => rfl
  | some l0 =>
    simp only [Option.map_some, Option.some.injEq]
    have hml := (mayD_iff.1 hM).2.2.2 l0 (mem_of_at hk)
    have f1 := lineF_frame F i p j q k l0
    have f2 := lineF_frame G i p j q k (lineF F i p j q k l0)
    have f3 := lineF_frame F i p j q k (lineF G i p j q k (lineF F i p j q k l0))
    have hcells : (lineF F i p j q k (lineF G i p j q k (lineF F i p j q k l0))).cells = (lineF F i p j q k l0).cells := by
      refine List.ext_getElem? fun n => ?_
      cases hn : l0.cells[n]? with
      | none =>
        have hn := List.getElem?_eq_none_iff.1 hn
        rw [List.getElem?_eq_none_iff.2 (by rw [lineF_length, lineF_length, lineF_length]; exact hn), List.getElem?_eq_none_iff.2 (by rw [lineF_length]; exact hn)]
      | some c =>
        have hc : mayC c = true := List.all_eq_true.1 (mayL_has hml) c (List.mem_of_getElem? hn)
        have g1 := lineF_cell F (p := p) (q := q) (k := k) hij hn
        have g2 := lineF_cell G (p := p) (q := q) (k := k) hij g1
        have g3 := lineF_cell F (p := p) (q := q) (k := k) hij g2
        rw [g3, g1]
        split
        · rw [hFG c hc]
        · rfl
    have hfr : ∀ x y : Lin, ({ x with cells := [] } : Lin) = { y with cells := [] } → x.cells = y.cells → x = y := fun x y h k => by
      obtain ⟨_, _, _, _⟩ := x
      obtain ⟨_, _, _, _⟩ := y
      simp only [Lin.mk.injEq] at h k ⊢
      exact ⟨h.1, h.2.1, h.2.2.1, k⟩
    exact hfr _ _ (f3.trans f2) hcells
theorem set_clear (b : Int) (hb : four b = true) (x : Int) (hx : 0 ≤ x ∧ x ≤ 15) :
    bits .or .i64 (bits .andNot .i64 (bits .or .i64 (bits .andNot .i64 (bits .or .i64 (bits .andNot .i64 x (bits .and .i64 0 15)) (bits .and .i64 b 15)) (bits .and .i64 b 15)) (bits .and .i64 0 15)) (bits .and .i64 0 15)) (bits .and .i64 b 15) = bits .or .i64 (bits .andNot .i64 x (bits .and .i64 0 15)) (bits .and .i64 b 15) ∧
    bits .or .i64 (bits .andNot .i64 (bits .or .i64 (bits .andNot .i64 (bits .or .i64 (bits .andNot .i64 x (bits .and .i64 b 15)) (bits .and .i64 0 15)) (bits .and .i64 0 15)) (bits .and .i64 b 15)) (bits .and .i64 b 15)) (bits .and .i64 0 15) = bits .or .i64 (bits .andNot .i64 x (bits .and .i64 b 15)) (bits .and .i64 0 15) ∧
    bits .and .i64 (bits .or .i64 (bits .andNot .i64 x (bits .and .i64 0 15)) (bits .and .i64 b 15)) b = b ∧ bits .and .i64 (bits .or .i64 (bits .andNot .i64 x (bits .and .i64 b 15)) (bits .and .i64 0 15)) b = 0 := by
  obtain ⟨x, rfl⟩ := Int.eq_ofNat_of_zero_le hx.1
  have H : ∀ b ∈ [(1 : Int), 2, 4, 8], ∀ x : Fin 16,
    bits .or .i64 (bits .andNot .i64 (bits .or .i64 (bits .andNot .i64 (bits .or .i64 (bits .andNot .i64 (x.val : Int) (bits .and .i64 0 15)) (bits .and .i64 b 15)) (bits .and .i64 b 15)) (bits .and .i64 0 15)) (bits .and .i64 0 15)) (bits .and .i64 b 15) = bits .or .i64 (bits .andNot .i64 (x.val : Int) (bits .and .i64 0 15)) (bits .and .i64 b 15) ∧
    bits .or .i64 (bits .andNot .i64 (bits .or .i64 (bits .andNot .i64 (bits .or .i64 (bits .andNot .i64 (x.val : Int) (bits .and .i64 b 15)) (bits .and .i64 0 15)) (bits .and .i64 0 15)) (bits .and .i64 b 15)) (bits .and .i64 b 15)) (bits .and .i64 0 15) = bits .or .i64 (bits .andNot .i64 (x.val : Int) (bits .and .i64 b 15)) (bits .and .i64 0 15) ∧
    bits .and .i64 (bits .or .i64 (bits .andNot .i64 (x.val : Int) (bits .and .i64 0 15)) (bits .and .i64 b 15)) b = b ∧ bits .and .i64 (bits .or .i64 (bits .andNot .i64 (x.val : Int) (bits .and .i64 b 15)) (bits .and .i64 0 15)) b = 0 := by decide +kernel
  have hm : b ∈ [(1 : Int), 2, 4, 8] := by rcases four_cases hb with rfl | rfl | rfl | rfl <;> simp
  exact H b hm ⟨x, by omega⟩
theorem four_ne {b : Int} (h : four b = true) : (b == 0) = false := by rcases four_cases h with rfl | rfl | rfl | rfl <;> rfl
theorem has_open {s : St} {b : Int} (hm : mayS s = true) (hb : four b = true) (ho : ¬ s.anc = s.foc) : hasS s b = allL (selS s) b := by
  unfold hasS bitsS
  rw [if_pos hm, if_neg ho, four_ne hb]
  exact bits_all hb fun c hc => cells_bits (mayS_at hm).1 c hc
theorem mixed_open {s : St} {b : Int} (h : someL (selS s) b = false ∨ allL (selS s) b = true) : mixedS s b = false := by
  unfold mixedS
  rcases h with h | h <;> rw [h] <;> simp
theorem all_on {l : List Cel} {b : Int} (hb : four b = true) (hl : l ≠ []) (h : ∀ c ∈ l, 0 ≤ c.bits ∧ c.bits ≤ 15) : allL (l.map (setBits b 0)) b = true ∧ allL (l.map (setBits 0 b)) b = false ∧ someL (l.map (setBits 0 b)) b = false := by
  have hp : 0 < l.length := List.length_pos_iff.2 hl
  refine ⟨?_, ?_, ?_⟩
  · unfold allL
    rw [List.length_map, decide_eq_true hp, Bool.true_and, List.all_eq_true]
    intro x hx
    obtain ⟨c, hc, rfl⟩ := List.mem_map.1 hx
    rw [beq_iff_eq]
    exact (set_clear b hb c.bits (h c hc)).2.2.1
  · rcases l with _ | ⟨c, l⟩
    · exact absurd rfl hl
    · unfold allL
      rw [List.map_cons, List.all_cons]
      have h0 : bits .and .i64 (setBits 0 b c).bits b = 0 := (set_clear b hb c.bits (h c (by simp))).2.2.2
      rw [h0, show ((0 : Int) == b) = false by rw [Bool.beq_comm]; exact four_ne hb, Bool.false_and, Bool.and_false]
  · unfold someL
    rw [List.any_eq_false]
    intro x hx
    obtain ⟨c, hc, rfl⟩ := List.mem_map.1 hx
    have h0 : bits .and .i64 (setBits 0 b c).bits b = 0 := (set_clear b hb c.bits (h c hc)).2.2.2
    rw [h0]
    decide
structure Twice (s a : St) (b : Int) (B C : St) : Prop where
  okB : toggleS a b = (B, 0)
  okC : toggleS B b = (C, 0)
  same : C = a
  hasA : hasS a b = !hasS s b
  hasB : hasS B b = !hasS a b
  mixA : mixedS a b = false
  mixB : mixedS B b = false
  mayA : mayS a = true
  mayB : mayS B = true
  anc : a.anc = s.anc ∧ a.foc = s.foc
theorem toggle_open {s : St} {b : Int} (hm : mayS s = true) (hb : four b = true) (ho : ¬ s.anc = s.foc) : toggleS s b = staysS s (togD s b) := by
  unfold toggleS
  rw [if_pos ⟨hm, hb⟩, if_neg ho]
theorem twice_open {s a : St} {b : Int} (hm : mayS s = true) (hb : four b = true) (ho : ¬ s.anc = s.foc) (h : toggleS s b = (a, 0)) : ∃ B C, Twice s a b B C := by
  have hr := four_rng hb
  have m1 := may_setBits (s := b) (c := 0) hr (by decide)
  have m2 := may_setBits (s := 0) (c := b) (by decide) hr
  rw [toggle_open hm hb ho] at h
  obtain ⟨h0, rfl⟩ := stays_ok h
  have key : ∀ (F G : Cel → Cel) (tf : Bool), (∀ c, mayC c = true → mayC (F c) = true) → (∀ c, mayC c = true → mayC (G c) = true) → (∀ c, mayC c = true → F (G (F c)) = F c) →
      (∀ t : St, mayS t = true → allL (selS t) b = tf → togD t b = eachD (fun cs i j => mapIn F i j cs) t.lines (spanS t).1 (spanS t).2) →
      (∀ t : St, mayS t = true → allL (selS t) b = !tf → togD t b = eachD (fun cs i j => mapIn G i j cs) t.lines (spanS t).1 (spanS t).2) →
      (∀ l : List Cel, l ≠ [] → (∀ c ∈ l, 0 ≤ c.bits ∧ c.bits ≤ 15) → allL (l.map F) b = (!tf) ∧ (someL (l.map F) b = false ∨ allL (l.map F) b = true)) →
      (∀ l : List Cel, l ≠ [] → (∀ c ∈ l, 0 ≤ c.bits ∧ c.bits ≤ 15) → allL (l.map G) b = tf ∧ (someL (l.map G) b = false ∨ allL (l.map G) b = true)) →
      allL (selS s) b = tf → ∃ B C, Twice s ⟨(togD s b).1, s.anc, s.foc, 0, 0⟩ b B C := by
    intro F G tf hF hG hFG tF tG aF aG hs
    have e1 := tF s hm hs
    obtain ⟨X, er, hX⟩ : ∃ X er, eachD (fun cs i j => mapIn F i j cs) s.lines (spanS s).1 (spanS s).2 = (X, er) := ⟨_, _, rfl⟩
    rw [e1, hX] at h0 ⊢
    have h0 : er = 0 := h0
    subst h0
    obtain ⟨g1, g2, g3, g4, g5, g6, g7⟩ := open_stays hm hF hX
    obtain ⟨k1, k2⟩ := aF (selS s) g3 g7
    have hne : selS ⟨X, s.anc, s.foc, 0, 0⟩ ≠ [] := by rw [g4]; simpa using g3
    have e2 := tG ⟨X, s.anc, s.foc, 0, 0⟩ g2 (by rw [g4]; exact k1)
    obtain ⟨Y, hY⟩ := each_again (s := s) (F := G) (X := X) (A := (spanS s).1) (B := (spanS s).2) g6 (by have := hne; unfold selS at this; rw [g5] at this; exact this)
    have hY' : eachD (fun cs i j => mapIn G i j cs) (⟨X, s.anc, s.foc, 0, 0⟩ : St).lines (spanS ⟨X, s.anc, s.foc, 0, 0⟩).1 (spanS ⟨X, s.anc, s.foc, 0, 0⟩).2 = (Y, 0) := by rw [g5]; exact hY
    obtain ⟨q1, q2, q3, q4, q5, q6, q7⟩ := open_stays g2 hG hY'
    simp only at q1 q2 q4 q5 q6
    rw [g5] at q5 q6
    obtain ⟨n1, n2⟩ := aG _ q3 q7
    have hne2 : selS ⟨Y, s.anc, s.foc, 0, 0⟩ ≠ [] := by rw [q4]; simpa using q3
    have e3 := tF ⟨Y, s.anc, s.foc, 0, 0⟩ q2 (by rw [q4]; exact n1)
    obtain ⟨Z, hZ⟩ := each_again (s := s) (F := F) (X := Y) (A := (spanS s).1) (B := (spanS s).2) q6 (by have := hne2; unfold selS at this; rw [q5] at this; exact this)
    have hZX : Z = X := each_thrice hF hG hFG hX hY hZ
    subst hZX
    refine ⟨⟨Y, s.anc, s.foc, 0, 0⟩, ⟨Z, s.anc, s.foc, 0, 0⟩, ?_⟩
    refine { okB := ?_, okC := ?_, same := rfl, hasA := ?_, hasB := ?_, mixA := mixed_open (by rw [g4]; exact k2), mixB := mixed_open (by rw [q4]; exact n2), mayA := g2, mayB := q2, anc := ⟨rfl, rfl⟩ }
    · rw [toggle_open g2 hb ho, e2, hY']
      rfl
    · rw [toggle_open q2 hb ho, e3, q5, hZ]
      rfl
    · rw [has_open g2 hb ho, has_open hm hb ho, g4, k1, hs]
    · rw [has_open q2 hb ho, has_open g2 hb ho, q4, n1, g4, k1, Bool.not_not]
  by_cases hs : allL (selS s) b = true
  · exact key (setBits 0 b) (setBits b 0) true m2 m1 (fun c hc => by
      have := (set_clear b hb c.bits (mayC_bits hc)).2.1
      unfold setBits
      simp only [Cel.mk.injEq, true_and, and_true]
      exact this)
      (fun t _ ht => by unfold togD setD; rw [if_pos ht])
      (fun t _ ht => by unfold togD setD; rw [if_neg (by rw [ht]; decide)])
      (fun l h1 h2 => ⟨(all_on hb h1 h2).2.1, .inl (all_on hb h1 h2).2.2⟩)
      (fun l h1 h2 => ⟨(all_on hb h1 h2).1, .inr (all_on hb h1 h2).1⟩) hs
  · have hs : allL (selS s) b = false := by simpa using hs
    exact key (setBits b 0) (setBits 0 b) false m1 m2 (fun c hc => by
      have := (set_clear b hb c.bits (mayC_bits hc)).1
      unfold setBits
      simp only [Cel.mk.injEq, true_and, and_true]
      exact this)
      (fun t _ ht => by unfold togD setD; rw [if_neg (by rw [ht]; decide)])
      (fun t _ ht => by unfold togD setD; rw [if_pos (by simpa using ht)])
      (fun l h1 h2 => ⟨(all_on hb h1 h2).1, .inr (all_on hb h1 h2).1⟩)
      (fun l h1 h2 => ⟨(all_on hb h1 h2).2.1, .inl (all_on hb h1 h2).2.2⟩) hs
def tOn (on off x b : Int) : Int := bits .or .i64 (bits .andNot .i64 on b) (bits .andNot .i64 b (bits .or .i64 (bits .andNot .i64 x off) on))
def tOff (on off x b : Int) : Int := bits .or .i64 (bits .andNot .i64 off b) (bits .andNot .i64 b (bits .andNot .i64 b (bits .or .i64 (bits .andNot .i64 x off) on)))
def tBits (on off x : Int) : Int := bits .or .i64 (bits .andNot .i64 x off) on
theorem tog_fin (on off x b : Int) (ho : 0 ≤ on ∧ on ≤ 15) (hf : 0 ≤ off ∧ off ≤ 15) (hx : 0 ≤ x ∧ x ≤ 15) (h0 : bits .and .i64 on off = 0) (hb : four b = true) :
    tOn (tOn (tOn on off x b) (tOff on off x b) x b) (tOff (tOn on off x b) (tOff on off x b) x b) x b = tOn on off x b ∧
    tOff (tOn (tOn on off x b) (tOff on off x b) x b) (tOff (tOn on off x b) (tOff on off x b) x b) x b = tOff on off x b ∧
    (bits .and .i64 (tBits (tOn on off x b) (tOff on off x b) x) b == b) = !(bits .and .i64 (tBits on off x) b == b) ∧
    bits .xor .i64 (tBits (tOn on off x b) (tOff on off x b) x) (tBits on off x) = b ∧
    tBits (tOn (tOn on off x b) (tOff on off x b) x b) (tOff (tOn on off x b) (tOff on off x b) x b) x = tBits on off x := by
  obtain ⟨on, rfl⟩ := Int.eq_ofNat_of_zero_le ho.1
  obtain ⟨off, rfl⟩ := Int.eq_ofNat_of_zero_le hf.1
  obtain ⟨x, rfl⟩ := Int.eq_ofNat_of_zero_le hx.1
  have H : ∀ b ∈ [(1 : Int), 2, 4, 8], ∀ on off x : Fin 16, bits .and .i64 (on.val : Int) (off.val : Int) = 0 →
    tOn (tOn (tOn on.val off.val x.val b) (tOff on.val off.val x.val b) x.val b) (tOff (tOn on.val off.val x.val b) (tOff on.val off.val x.val b) x.val b) x.val b = tOn on.val off.val x.val b ∧
    tOff (tOn (tOn on.val off.val x.val b) (tOff on.val off.val x.val b) x.val b) (tOff (tOn on.val off.val x.val b) (tOff on.val off.val x.val b) x.val b) x.val b = tOff on.val off.val x.val b ∧
    (bits .and .i64 (tBits (tOn on.val off.val x.val b) (tOff on.val off.val x.val b) x.val) b == b) = !(bits .and .i64 (tBits on.val off.val x.val) b == b) ∧
    bits .xor .i64 (tBits (tOn on.val off.val x.val b) (tOff on.val off.val x.val b) x.val) (tBits on.val off.val x.val) = b ∧
    tBits (tOn (tOn on.val off.val x.val b) (tOff on.val off.val x.val b) x.val b) (tOff (tOn on.val off.val x.val b) (tOff on.val off.val x.val b) x.val b) x.val = tBits on.val off.val x.val := by decide +kernel
  have hm : b ∈ [(1 : Int), 2, 4, 8] := by rcases four_cases hb with rfl | rfl | rfl | rfl <;> simp
  exact H b hm ⟨on, by omega⟩ ⟨off, by omega⟩ ⟨x, by omega⟩ h0
def aroundS (s : St) : Int := (aroundF (cellsAt s) s.anc.col.toNat).1
theorem bitsS_closed {s : St} (hm : mayS s = true) (hc : s.anc = s.foc) : bitsS s = tBits s.on s.off (aroundS s) := by
  unfold bitsS
  rw [if_pos hm, if_pos hc]
  rfl
theorem aroundS_rng {s : St} (hm : mayS s = true) : 0 ≤ aroundS s ∧ aroundS s ≤ 15 := by
  obtain ⟨hM, hi, _⟩ := mayS_at hm
  obtain ⟨i, j, l, ha, hl, hj⟩ := isD_nat hi
  have : cellsAt s = l.cells := by
    unfold cellsAt
    rw [ha]
    simp only [Int.toNat_natCast]
    rw [List.getD_eq_getElem?_getD, hl]
    rfl
  unfold aroundS
  rw [this, ha]
  exact around_rng (mayL_has ((mayD_iff.1 hM).2.2.2 l (mem_of_at hl))) (by simpa using hj)
theorem tog_closedS {s : St} {b : Int} (hm : mayS s = true) (hb : four b = true) (hc : s.anc = s.foc) : toggleS s b = ({ s with on := tOn s.on s.off (aroundS s) b, off := tOff s.on s.off (aroundS s) b }, 0) := by
  unfold toggleS
  rw [if_pos ⟨hm, hb⟩, if_pos hc]
  unfold togC
  rw [bitsS_closed hm hc]
  rfl
theorem twice_closed {s a : St} {b : Int} (hm : mayS s = true) (hr : RngS s) (hb : four b = true) (hc : s.anc = s.foc) (h : toggleS s b = (a, 0)) :
    ∃ B C, Twice s a b B C ∧ bits .xor .i64 (bitsS a) (bitsS s) = b ∧ bitsS B = bitsS s ∧ RngS a ∧ a.lines = s.lines := by
  have hx := aroundS_rng hm
  obtain ⟨_, _, _, _, _, h0⟩ := mayS_at hm
  have go : ∀ t : St, mayS t = true → RngS t → t.anc = t.foc → mayS { t with on := tOn t.on t.off (aroundS t) b, off := tOff t.on t.off (aroundS t) b } = true ∧ RngS { t with on := tOn t.on t.off (aroundS t) b, off := tOff t.on t.off (aroundS t) b } := by
    intro t ht hrt hct
    have := acts_toggle ht hrt hb
    rw [tog_closedS ht hb hct] at this
    rcases this with ⟨_, k1, k2⟩ | ⟨_, k⟩
    · exact ⟨k1.may, k2⟩
    · rcases k with k | k <;> cases k
  rw [tog_closedS hm hb hc] at h
  obtain ⟨m1, r1⟩ := go s hm hr hc
  obtain ⟨f1, f2, f3, f4, f5⟩ := tog_fin s.on s.off (aroundS s) b hr.1 hr.2 hx h0 hb
  cases h
  have ea := tog_closedS m1 hb (by exact hc)
  obtain ⟨m2, r2⟩ := go _ m1 r1 hc
  have eb := tog_closedS m2 hb (by exact hc)
  have A1 : aroundS { s with on := tOn s.on s.off (aroundS s) b, off := tOff s.on s.off (aroundS s) b } = aroundS s := rfl
  simp only [A1] at ea eb m2 r2
  have A2 : aroundS { s with on := tOn (tOn s.on s.off (aroundS s) b) (tOff s.on s.off (aroundS s) b) (aroundS s) b, off := tOff (tOn s.on s.off (aroundS s) b) (tOff s.on s.off (aroundS s) b) (aroundS s) b } = aroundS s := rfl
  simp only [A2, f1, f2] at eb
  have hA : bitsS { s with on := tOn s.on s.off (aroundS s) b, off := tOff s.on s.off (aroundS s) b } = tBits (tOn s.on s.off (aroundS s) b) (tOff s.on s.off (aroundS s) b) (aroundS s) := bitsS_closed m1 hc
  have hB : bitsS { s with on := tOn (tOn s.on s.off (aroundS s) b) (tOff s.on s.off (aroundS s) b) (aroundS s) b, off := tOff (tOn s.on s.off (aroundS s) b) (tOff s.on s.off (aroundS s) b) (aroundS s) b } = bitsS s := by
    rw [bitsS_closed m2 hc, bitsS_closed hm hc]
    exact f5
  refine ⟨_, _, { okB := ea, okC := eb, same := rfl, hasA := ?_, hasB := ?_, mixA := ?_, mixB := ?_, mayA := m1, mayB := m2, anc := ⟨rfl, rfl⟩ }, ?_, hB, r1, rfl⟩
  · unfold hasS
    rw [hA, bitsS_closed hm hc, f3, four_ne hb]
    simp
  · unfold hasS
    rw [hB, hA, bitsS_closed hm hc, f3, four_ne hb]
    simp
  · unfold mixedS
    simp [hc]
  · unfold mixedS
    simp [hc]
  · rw [hA, bitsS_closed hm hc]
    exact f4
theorem toggle_err {s : St} {b e : Int} {a : St} (hm : mayS s = true) (hb : four b = true) (h : toggleS s b = (a, e)) (he : ¬ e = 0) : e = 7 ∧ ¬ s.anc = s.foc ∧ cellsD s.lines (spanS s).1 (spanS s).2 = [] ∧ a = noS := by
  by_cases hc : s.anc = s.foc
  · rw [tog_closedS hm hb hc] at h
    exact absurd (congrArg Prod.snd h).symm he
  · rw [toggle_open hm hb hc] at h
    have hsp := mayS_span hm
    have hd : ∃ F : Cel → Cel, togD s b = eachD (fun cs i j => mapIn F i j cs) s.lines (spanS s).1 (spanS s).2 := by
      unfold togD
      split
      · exact ⟨_, rfl⟩
      · exact ⟨_, rfl⟩
    obtain ⟨F, hF⟩ := hd
    rw [hF] at h
    unfold eachD at h
    rw [if_pos hsp] at h
    by_cases hcl : cellsD s.lines (spanS s).1 (spanS s).2 = []
    · rw [if_pos hcl] at h
      unfold staysS at h
      rw [if_neg (by decide)] at h
      cases h
      exact ⟨rfl, hc, hcl, rfl⟩
    · rw [if_neg hcl] at h
      unfold staysS at h
      rw [if_pos rfl] at h
      exact absurd (congrArg Prod.snd h).symm he
theorem typB_closed {s : St} (hm : mayS s = true) (hc : s.anc = s.foc) : typB s = bitsS s := by
  rw [bitsS_closed hm hc]
  unfold typB tBits aroundS cellsAt lineAt
  rw [spanS_closed hc]
  simp only
  rw [cells_closed]
  rfl
theorem typed_bits {s u : St} {t : ByteArray} (hm : mayS s = true) (hc : s.anc = s.foc) (he : keyS s (textK s t) = (u, 0)) :
    ∃ (i q : Nat) (l : Lin) (c : Cel), s.foc = ⟨i, q⟩ ∧ u.lines[i]? = some l ∧ l.cells[q]? = some c ∧ c.bits = bitsS s := by
  obtain ⟨i, q, l, hf, hl, hq, hne, rfl, _⟩ := text_ins hm hc he
  have hi := (List.getElem?_eq_some_iff.1 hl).1
  obtain ⟨r, rs, hr⟩ : ∃ r rs, cleanB t = r :: rs := by
    cases h : cleanB t with
    | nil => exact absurd h hne
    | cons r rs => exact ⟨r, rs, rfl⟩
  refine ⟨i, q, { l with cells := insertC l.cells q (cellsOf (cleanB t) (typB s) (aroundF l.cells q).2) }, ⟨r, typB s, (aroundF l.cells q).2⟩, hf, List.getElem?_set_self hi, ?_, typB_closed hm hc⟩
  have hl1 : (l.cells.take q).length = q := by rw [List.length_take]; omega
  simp only [insertC, List.append_assoc]
  rw [List.getElem?_append_right (by omega), hl1, Nat.sub_self, hr]
  rfl
end Go.Proofs.Qw
namespace Go.Proofs.Qw
open Go.RowKit Go.Proofs.YtpndnbjpnajaaaaGreatDoor
def exL (b c : Int) (h k : List UInt8) : Doc := [⟨0, [], 0, [⟨97, b, h⟩, ⟨98, c, k⟩]⟩]
def exA : St := ⟨exL 0 1 [] [], ⟨0, 0⟩, ⟨0, 2⟩, 0, 0⟩
def exB : St := ⟨exL 1 1 [] [], ⟨0, 0⟩, ⟨0, 2⟩, 0, 0⟩
def exC : St := ⟨exL 0 0 [] [], ⟨0, 0⟩, ⟨0, 2⟩, 0, 0⟩
def exX : List UInt8 := [120]
def exD : St := ⟨exL 0 1 exX exX, ⟨0, 0⟩, ⟨0, 2⟩, 0, 0⟩
def exE : St := ⟨exL 0 1 [] [], ⟨0, 2⟩, ⟨0, 2⟩, 0, 0⟩
def exF : St := ⟨exL 0 1 [] [], ⟨0, 2⟩, ⟨0, 2⟩, 0, 1⟩
theorem exA_tog : toggleS exA 1 = (exB, 0) := by decide +kernel
theorem exB_tog : toggleS exB 1 = (exC, 0) := by decide +kernel
theorem exA_link : changedS exA (linkL exA [120]) = (exD, 0) := by decide +kernel
theorem exA_off : changedS exA (linkL exA [32, 120]) = (noS, 1) := by decide +kernel
theorem exE_tog : toggleS exE 1 = (exF, 0) := by decide +kernel
theorem exD_href : hrefS exD = [120] := by decide +kernel
theorem exE_bits : bitsS exE = 1 := by decide +kernel
theorem exF_bits : bitsS exF = 0 := by decide +kernel
end Go.Proofs.Qw
namespace Go.Proofs.YtpndnbjpnajaaaaGreatDoor
open Go.RowKit
open Go.Proofs.Qw
theorem on1f {w : World} {B : Nat} {cs : Array Value} {t : TypeId} (h : w.heap[B]? = some (.cells cs t)) : ∀ X k, (w.alloc X).frozen? ⟨B, k, none⟩ = false := fun X _ => frozen_of_heap (heap_old _ X h)
theorem exL_small (b c : Int) {h k : List UInt8} (h1 : h.length ≤ 10) (h2 : k.length ≤ 10) : Small (exL b c h k) ∧ Fits (exL b c h k) := by
  refine ⟨⟨by simp [sizeD, exL], by simp [exL], fun l hl x hx => ?_⟩, by simp [exL], fun l hl => ?_⟩
  · simp only [exL, List.mem_singleton] at hl
    subst hl
    simp only [List.mem_cons, List.mem_nil_iff, or_false] at hx
    rcases hx with rfl | rfl
    · show h.length ≤ _; omega
    · show k.length ≤ _; omega
  · simp only [exL, List.mem_singleton] at hl
    subst hl
    simp
theorem exL_at {w : World} {S : Nat → Prop} {v : Value} {b c : Int} {h k : List UInt8} (hv : DocR true w S v (exL b c h k)) :
    ∃ p o n la lc p2 o2 n2, v = .slice (some ⟨p, o, none⟩) 1 n ∧ p < w.heap.size ∧ p2 < w.heap.size ∧ w.cell? ⟨p, o + 1, none⟩ = some (.slice la 0 lc) ∧ w.cell? ⟨p, o + 3, none⟩ = some (.slice (some ⟨p2, o2, none⟩) 2 n2) ∧ w.cell? ⟨p2, o2 + 1, none⟩ = some (.int .i64 b) ∧ w.cell? ⟨p2, o2 + 3 + 1, none⟩ = some (.int .i64 c) ∧ n ≤ maxLen ∧ n2 ≤ maxLen ∧ 1 ≤ n ∧ 2 ≤ n2 := by
  obtain ⟨p, o, n, la, lc, ca, cc, rfl, hc, hm, hA, _, hC, _⟩ := docOwn_at hv (i := 0) (l := ⟨0, [], 0, [⟨97, b, h⟩, ⟨98, c, k⟩]⟩) rfl
  rw [Nat.zero_mul, Nat.add_zero] at hA
  obtain ⟨hlt, _, a1, _, a3, _, _⟩ := hA
  obtain ⟨a, n2, he, hn2, hm2, hx⟩ := cels_shape (SliceR.read (fun _ _ h => h) hC)
  cases he
  obtain ⟨p2, o2, rfl, hz2, _, c1, _⟩ := hx 0 _ rfl
  obtain ⟨p3, o3, he3, _, _, d1, _⟩ := hx 1 _ rfl
  cases he3
  rw [Nat.zero_mul, Nat.add_zero] at c1
  rw [Nat.one_mul] at d1
  exact ⟨p, o, n, la, lc, p2, o2, _, rfl, hlt, hz2, a1, a3, c1, d1, hm, hm2, hc, hn2⟩
set_option maxRecDepth 100000 in
set_option maxHeartbeats 4000000 in
theorem awake24_any (w : World) (he : EnvT w) : Calls Tryz.prog 18 #[] w fun e w' => e = .returned (.bool true) ∧ Below w.heap.size w w' := by
  obtain ⟨W1, hW1⟩ : ∃ W1, ((w.alloc (.cells #[.int .i32 97, .int .i64 0, .string ⟨#[]⟩, .int .i32 98, .int .i64 1, .string ⟨#[]⟩] 44)).alloc (.cells #[.int .i64 0, .slice none 0 0, .int .i64 0, .slice (some ⟨w.heap.size, 0, none⟩) 2 2] 42)).alloc (.cells #[.slice (some ⟨w.heap.size + 1, 0, none⟩) 1 1, .int .i64 0, .int .i64 0, .int .i64 0, .int .i64 2, .int .i64 0, .int .i64 0] 26) = W1 := ⟨_, rfl⟩
  have hB : Below w.heap.size w W1 := hW1 ▸ below3 (Below.refl _ _) _ _ _
  have hz : w.heap.size + 3 = W1.heap.size := by rw [← hW1]; simp
  have k0 : W1.heap[w.heap.size]? = some (.cells #[.int .i32 97, .int .i64 0, .string ⟨#[]⟩, .int .i32 98, .int .i64 1, .string ⟨#[]⟩] 44) := hW1 ▸ heap_old _ _ (heap_old _ _ (heap_new _ _ rfl))
  have k1 : W1.heap[w.heap.size + 1]? = some (.cells #[.int .i64 0, .slice none 0 0, .int .i64 0, .slice (some ⟨w.heap.size, 0, none⟩) 2 2] 42) := hW1 ▸ heap_old _ _ (heap_new _ _ (by simp))
  have k2 : W1.heap[w.heap.size + 1 + 1]? = some (.cells #[.slice (some ⟨w.heap.size + 1, 0, none⟩) 1 1, .int .i64 0, .int .i64 0, .int .i64 0, .int .i64 2, .int .i64 0, .int .i64 0] 26) := hW1 ▸ heap_new _ _ (by simp)
  have hd0 : LinsR W1 (fun b => b < w.heap.size + 2) (.slice (some ⟨w.heap.size + 1, 0, none⟩) 1 1) (exL 0 1 [] []) := by
    refine ⟨_, 1, rfl, Nat.le_refl _, by decide, .inr ⟨w.heap.size + 1, 0, rfl, (by show w.heap.size + 1 < w.heap.size + 2; omega), by omega, fun h => (by cases h), fun i x hx => ?_⟩⟩
    match i, hx with
    | 0, hx =>
      cases hx
      exact ⟨[.int .i64 0, .slice none 0 0, .int .i64 0, .slice (some ⟨w.heap.size, 0, none⟩) 2 2], rfl, ⟨.slice none 0 0, _, rfl, SliceR.nil _ _ _ _ _ _, slice_blk (enc := encCel) (fun _ => rfl) [⟨97, 0, []⟩, ⟨98, 1, []⟩] k0 (by show w.heap.size < w.heap.size + 2; omega) (by decide)⟩, fun j u hu => by
        rw [cell_of_heap k1, Nat.zero_mul, Nat.zero_add]
        simpa using hu⟩
  have hs1 := hB.size
  have HE : Hid (∀ W, Below w.heap.size w W → EnvT W) := Lib.hid fun W hW => he.below hW
  have HB1 := Lib.hid hB
  have HD1 := Lib.hid hd0
  have HK1 := Lib.hid k2
  have HS1 : Hid (w.heap.size + 3 ≤ W1.heap.size) := Lib.hid (by omega)
  have HW1 := Lib.hid hW1
  clear he hd0 k0 k1 k2 hB hW1
  go_enter Tryz.func18, Tryz.ntmps18
  go_wp2_with fail
  rw [HW1.out]
  have HC2 : Hid (Calls Tryz.prog 29 #[.agg #[.slice (some ⟨w.heap.size + 1, 0, none⟩) 1 1, .int .i64 0, .int .i64 0, .int .i64 0, .int .i64 2, .int .i64 0, .int .i64 0], .int .i64 1] W1 (StSaid ((⟨exL 1 1 [] [], ⟨0, 0⟩, ⟨0, 2⟩, 0, 0⟩, 0)) W1)) := Lib.hid (by
    have := styToggle_any (.slice (some ⟨w.heap.size + 1, 0, none⟩) 1 1) exA 1 W1 _ HD1.out (HE.out _ HB1.out) (exL_small _ _ (by decide) (by decide)).1 (exL_small _ _ (by decide) (by decide)).2
    rw [exA_tog] at this
    exact this)
  refine HC2.out.mono ?_
  intro e w2 hsaid
  obtain ⟨v2, rfl, hv2, hst2⟩ := hsaid
  obtain ⟨x2, y2, hve2⟩ := hv2.slice
  rw [show (exL 1 1 [] []).length = 1 from rfl] at hve2
  subst hve2
  have HB20 : Hid (Below w.heap.size w w2) := Lib.hid (below_from HB1.out hst2)
  have HK20 := Lib.hid (heap_below hst2 HK1.out)
  have HD20 := Lib.hid (HD1.out.below (rdLin_stable _) hst2)
  have HS20 := Lib.hid (Nat.le_trans HS1.out hst2.size)
  have HR2_20 := Lib.hid hv2
  have HT2 := Lib.hid hst2
  clear hv2 hst2
  obtain ⟨q2, g2⟩ := blk HK20.out
  have r2 := on1 HK20.out
  have u2 := on1f HK20.out
  have e2 : ¬ w2.heap.size = w.heap.size + 1 + 1 := by have := HS20.out; omega
  go_wp2_with fail
  obtain ⟨m2, hm2⟩ : ∃ m2, w2.alloc (.cells #[.slice x2 1 y2, .int .i64 0, .int .i64 0, .int .i64 0, .int .i64 2, .int .i64 0, .int .i64 0] 26) = m2 := ⟨_, rfl⟩
  rw [hm2]
  have hbm2 : Below w2.heap.size w2 m2 := hm2 ▸ below1 (Below.refl _ _) _
  have HN2_2 : Hid (m2.heap[w2.heap.size]? = some (.cells #[.slice x2 1 y2, .int .i64 0, .int .i64 0, .int .i64 0, .int .i64 2, .int .i64 0, .int .i64 0] 26)) := Lib.hid (hm2 ▸ heap_new _ _ rfl)
  have HB2 := Lib.hid (below_from HB20.out hbm2)
  have HK2 := Lib.hid (heap_below hbm2 HK20.out)
  have HD2 := Lib.hid (HD20.out.below (rdLin_stable _) hbm2)
  have HS2 := Lib.hid (Nat.le_trans HS20.out hbm2.size)
  have HR2_2 := Lib.hid (HR2_20.out.below hbm2)
  clear hbm2 hm2 q2 g2 r2 u2 e2
  have HC3 : Hid (Calls Tryz.prog 29 #[.agg #[.slice x2 1 y2, .int .i64 0, .int .i64 0, .int .i64 0, .int .i64 2, .int .i64 0, .int .i64 0], .int .i64 1] m2 (StSaid ((⟨exL 0 0 [] [], ⟨0, 0⟩, ⟨0, 2⟩, 0, 0⟩, 0)) m2)) := Lib.hid (by
    have := styToggle_any _ exB 1 m2 _ HR2_2.out.read (HE.out _ HB2.out) (exL_small _ _ (by decide) (by decide)).1 (exL_small _ _ (by decide) (by decide)).2
    rw [exB_tog] at this
    exact this)
  refine HC3.out.mono ?_
  intro e w3 hsaid
  obtain ⟨v3, rfl, hv3, hst3⟩ := hsaid
  obtain ⟨x3, y3, hve3⟩ := hv3.slice
  rw [show (exL 0 0 [] []).length = 1 from rfl] at hve3
  subst hve3
  have HB30 : Hid (Below w.heap.size w w3) := Lib.hid (below_from HB2.out hst3)
  have HK30 := Lib.hid (heap_below hst3 HK2.out)
  have HD30 := Lib.hid (HD2.out.below (rdLin_stable _) hst3)
  have HS30 := Lib.hid (Nat.le_trans HS2.out hst3.size)
  have HR3_30 := Lib.hid hv3
  have HR2_30 := Lib.hid (HR2_2.out.below hst3)
  have HN2_30 := Lib.hid (heap_below hst3 HN2_2.out)
  have HT3 := Lib.hid hst3
  clear hv3 hst3
  obtain ⟨q3, g3⟩ := blk HK30.out
  have r3 := on1 HK30.out
  have u3 := on1f HK30.out
  have e3 : ¬ w3.heap.size = w.heap.size + 1 + 1 := by have := HS30.out; omega
  go_wp2_with fail
  obtain ⟨m3, hm3⟩ : ∃ m3, w3.alloc (.cells #[.slice x3 1 y3, .int .i64 0, .int .i64 0, .int .i64 0, .int .i64 2, .int .i64 0, .int .i64 0] 26) = m3 := ⟨_, rfl⟩
  rw [hm3]
  have hbm3 : Below w3.heap.size w3 m3 := hm3 ▸ below1 (Below.refl _ _) _
  have HN3_3 : Hid (m3.heap[w3.heap.size]? = some (.cells #[.slice x3 1 y3, .int .i64 0, .int .i64 0, .int .i64 0, .int .i64 2, .int .i64 0, .int .i64 0] 26)) := Lib.hid (hm3 ▸ heap_new _ _ rfl)
  have HB3 := Lib.hid (below_from HB30.out hbm3)
  have HK3 := Lib.hid (heap_below hbm3 HK30.out)
  have HD3 := Lib.hid (HD30.out.below (rdLin_stable _) hbm3)
  have HS3 := Lib.hid (Nat.le_trans HS30.out hbm3.size)
  have HR3_3 := Lib.hid (HR3_30.out.below hbm3)
  have HR2_3 := Lib.hid (HR2_30.out.below hbm3)
  have HN2_3 := Lib.hid (heap_below hbm3 HN2_30.out)
  clear hbm3 hm3 q3 g3 r3 u3 e3
  have HC4 : Hid (Calls Tryz.prog 30 #[.agg #[.slice (some ⟨w.heap.size + 1, 0, none⟩) 1 1, .int .i64 0, .int .i64 0, .int .i64 0, .int .i64 2, .int .i64 0, .int .i64 0], .string ⟨#[120]⟩] m3 (StSaid ((⟨exL 0 1 exX exX, ⟨0, 0⟩, ⟨0, 2⟩, 0, 0⟩, 0)) m3)) := Lib.hid (by
    have := styLink_any (.slice (some ⟨w.heap.size + 1, 0, none⟩) 1 1) exA [120] m3 _ HD3.out (HE.out _ HB3.out) (exL_small _ _ (by decide) (by decide)).1 (exL_small _ _ (by decide) (by decide)).2 (by decide)
    rw [exA_link] at this
    exact this)
  refine HC4.out.mono ?_
  intro e w4 hsaid
  obtain ⟨v4, rfl, hv4, hst4⟩ := hsaid
  obtain ⟨x4, y4, hve4⟩ := hv4.slice
  rw [show (exL 0 1 exX exX).length = 1 from rfl] at hve4
  subst hve4
  have HB40 : Hid (Below w.heap.size w w4) := Lib.hid (below_from HB3.out hst4)
  have HK40 := Lib.hid (heap_below hst4 HK3.out)
  have HD40 := Lib.hid (HD3.out.below (rdLin_stable _) hst4)
  have HS40 := Lib.hid (Nat.le_trans HS3.out hst4.size)
  have HR4_40 := Lib.hid hv4
  have HR2_40 := Lib.hid (HR2_3.out.below hst4)
  have HN2_40 := Lib.hid (heap_below hst4 HN2_3.out)
  have HR3_40 := Lib.hid (HR3_3.out.below hst4)
  have HN3_40 := Lib.hid (heap_below hst4 HN3_3.out)
  have HT4 := Lib.hid hst4
  clear hv4 hst4
  obtain ⟨q4, g4⟩ := blk HK40.out
  have r4 := on1 HK40.out
  have u4 := on1f HK40.out
  have e4 : ¬ w4.heap.size = w.heap.size + 1 + 1 := by have := HS40.out; omega
  go_wp2_with fail
  obtain ⟨m4, hm4⟩ : ∃ m4, w4.alloc (.cells #[.slice x4 1 y4, .int .i64 0, .int .i64 0, .int .i64 0, .int .i64 2, .int .i64 0, .int .i64 0] 26) = m4 := ⟨_, rfl⟩
  rw [hm4]
  have hbm4 : Below w4.heap.size w4 m4 := hm4 ▸ below1 (Below.refl _ _) _
  have HN4_4 : Hid (m4.heap[w4.heap.size]? = some (.cells #[.slice x4 1 y4, .int .i64 0, .int .i64 0, .int .i64 0, .int .i64 2, .int .i64 0, .int .i64 0] 26)) := Lib.hid (hm4 ▸ heap_new _ _ rfl)
  have HB4 := Lib.hid (below_from HB40.out hbm4)
  have HK4 := Lib.hid (heap_below hbm4 HK40.out)
  have HD4 := Lib.hid (HD40.out.below (rdLin_stable _) hbm4)
  have HS4 := Lib.hid (Nat.le_trans HS40.out hbm4.size)
  have HR4_4 := Lib.hid (HR4_40.out.below hbm4)
  have HR2_4 := Lib.hid (HR2_40.out.below hbm4)
  have HN2_4 := Lib.hid (heap_below hbm4 HN2_40.out)
  have HR3_4 := Lib.hid (HR3_40.out.below hbm4)
  have HN3_4 := Lib.hid (heap_below hbm4 HN3_40.out)
  clear hbm4 hm4 q4 g4 r4 u4 e4
  have HC5 : Hid (Calls Tryz.prog 30 #[.agg #[.slice (some ⟨w.heap.size + 1, 0, none⟩) 1 1, .int .i64 0, .int .i64 0, .int .i64 0, .int .i64 2, .int .i64 0, .int .i64 0], .string ⟨#[32, 120]⟩] m4 (StSaid ((⟨[], ⟨0, 0⟩, ⟨0, 0⟩, 0, 0⟩, 1)) m4)) := Lib.hid (by
    have := styLink_any (.slice (some ⟨w.heap.size + 1, 0, none⟩) 1 1) exA [32, 120] m4 _ HD4.out (HE.out _ HB4.out) (exL_small _ _ (by decide) (by decide)).1 (exL_small _ _ (by decide) (by decide)).2 (by decide)
    rw [exA_off] at this
    exact this)
  refine HC5.out.mono ?_
  intro e w5 hsaid
  obtain ⟨v5, rfl, hv5, hst5⟩ := hsaid
  obtain ⟨x5, y5, hve5⟩ := hv5.slice
  rw [show (([] : Doc)).length = 0 from rfl] at hve5
  subst hve5
  have HB50 : Hid (Below w.heap.size w w5) := Lib.hid (below_from HB4.out hst5)
  have HK50 := Lib.hid (heap_below hst5 HK4.out)
  have HD50 := Lib.hid (HD4.out.below (rdLin_stable _) hst5)
  have HS50 := Lib.hid (Nat.le_trans HS4.out hst5.size)
  have HR5_50 := Lib.hid hv5
  have HR2_50 := Lib.hid (HR2_4.out.below hst5)
  have HN2_50 := Lib.hid (heap_below hst5 HN2_4.out)
  have HR3_50 := Lib.hid (HR3_4.out.below hst5)
  have HN3_50 := Lib.hid (heap_below hst5 HN3_4.out)
  have HR4_50 := Lib.hid (HR4_4.out.below hst5)
  have HN4_50 := Lib.hid (heap_below hst5 HN4_4.out)
  have HT5 := Lib.hid hst5
  clear hv5 hst5
  obtain ⟨q5, g5⟩ := blk HK50.out
  have r5 := on1 HK50.out
  have u5 := on1f HK50.out
  have e5 : ¬ w5.heap.size = w.heap.size + 1 + 1 := by have := HS50.out; omega
  go_wp2_with fail
  obtain ⟨m5, hm5⟩ : ∃ m5, w5.alloc (.cells #[.slice x5 0 y5, .int .i64 0, .int .i64 0, .int .i64 0, .int .i64 0, .int .i64 0, .int .i64 0] 26) = m5 := ⟨_, rfl⟩
  rw [hm5]
  have hbm5 : Below w5.heap.size w5 m5 := hm5 ▸ below1 (Below.refl _ _) _
  have HN5_5 : Hid (m5.heap[w5.heap.size]? = some (.cells #[.slice x5 0 y5, .int .i64 0, .int .i64 0, .int .i64 0, .int .i64 0, .int .i64 0, .int .i64 0] 26)) := Lib.hid (hm5 ▸ heap_new _ _ rfl)
  have HB5 := Lib.hid (below_from HB50.out hbm5)
  have HK5 := Lib.hid (heap_below hbm5 HK50.out)
  have HD5 := Lib.hid (HD50.out.below (rdLin_stable _) hbm5)
  have HS5 := Lib.hid (Nat.le_trans HS50.out hbm5.size)
  have HR5_5 := Lib.hid (HR5_50.out.below hbm5)
  have HR2_5 := Lib.hid (HR2_50.out.below hbm5)
  have HN2_5 := Lib.hid (heap_below hbm5 HN2_50.out)
  have HR3_5 := Lib.hid (HR3_50.out.below hbm5)
  have HN3_5 := Lib.hid (heap_below hbm5 HN3_50.out)
  have HR4_5 := Lib.hid (HR4_50.out.below hbm5)
  have HN4_5 := Lib.hid (heap_below hbm5 HN4_50.out)
  clear hbm5 hm5 q5 g5 r5 u5 e5
  obtain ⟨m6, hm6⟩ : ∃ m6, (m5.setCell ⟨w.heap.size + 1 + 1, 1, none⟩ (.int .i64 0)).setCell ⟨w.heap.size + 1 + 1, 2, none⟩ (.int .i64 2) = m6 := ⟨_, rfl⟩
  rw [hm6]
  have o6 : ∀ k, k ≠ w.heap.size + 1 + 1 → m6.heap[k]? = m5.heap[k]? := fun k hk => by rw [← hm6, heap_set, if_neg (Ne.symm hk), heap_set, if_neg (Ne.symm hk)]
  have z6 : m6.heap.size = m5.heap.size := by rw [← hm6]; simp
  have HB6 : Hid (Below w.heap.size w m6) := Lib.hid (hm6 ▸ (HB5.out.setCell (by show w.heap.size ≤ w.heap.size + 1 + 1; omega) _).setCell (by show w.heap.size ≤ w.heap.size + 1 + 1; omega) _)
  have HK6 : Hid (m6.heap[w.heap.size + 1 + 1]? = some (.cells #[.slice (some ⟨w.heap.size + 1, 0, none⟩) 1 1, .int .i64 0, .int .i64 2, .int .i64 0, .int .i64 2, .int .i64 0, .int .i64 0] 26)) := Lib.hid (by rw [← hm6, heap_set, if_pos rfl, heap_set, if_pos rfl, HK5.out]; rfl)
  have HD6 := Lib.hid (SliceR.stable (rdLin_stable false) HD5.out ⟨by omega, fun b hb _ => o6 b (by have hb : b < w.heap.size + 2 := hb; omega)⟩ (fun b h _ => h))
  have HS6 : Hid (w.heap.size + 3 ≤ m6.heap.size) := Lib.hid (by have := HS5.out; omega)
  have HR2_6 : Hid (DocR true m6 (fun b => W1.heap.size ≤ b) (.slice x2 1 y2) (exL 1 1 [] [])) := Lib.hid (SliceR.stable (rdLin_stable true) HR2_5.out ⟨by omega, fun b hb _ => o6 b (by have hb : W1.heap.size ≤ b := hb; have := HS1.out; omega)⟩ (fun b h _ => h))
  have HN2_6 := Lib.hid ((o6 w2.heap.size (by have := HS20.out; omega)).trans HN2_5.out)
  have HR3_6 : Hid (DocR true m6 (fun b => m2.heap.size ≤ b) (.slice x3 1 y3) (exL 0 0 [] [])) := Lib.hid (SliceR.stable (rdLin_stable true) HR3_5.out ⟨by omega, fun b hb _ => o6 b (by have hb : m2.heap.size ≤ b := hb; have := HS2.out; omega)⟩ (fun b h _ => h))
  have HN3_6 := Lib.hid ((o6 w3.heap.size (by have := HS30.out; omega)).trans HN3_5.out)
  have HR4_6 : Hid (DocR true m6 (fun b => m3.heap.size ≤ b) (.slice x4 1 y4) (exL 0 1 exX exX)) := Lib.hid (SliceR.stable (rdLin_stable true) HR4_5.out ⟨by omega, fun b hb _ => o6 b (by have hb : m3.heap.size ≤ b := hb; have := HS3.out; omega)⟩ (fun b h _ => h))
  have HN4_6 := Lib.hid ((o6 w4.heap.size (by have := HS40.out; omega)).trans HN4_5.out)
  clear hm6 o6 z6
  have HC7 : Hid (Calls Tryz.prog 29 #[.agg #[.slice (some ⟨w.heap.size + 1, 0, none⟩) 1 1, .int .i64 0, .int .i64 2, .int .i64 0, .int .i64 2, .int .i64 0, .int .i64 0], .int .i64 1] m6 (StSaid ((⟨exL 0 1 [] [], ⟨0, 2⟩, ⟨0, 2⟩, 0, 1⟩, 0)) m6)) := Lib.hid (by
    have := styToggle_any (.slice (some ⟨w.heap.size + 1, 0, none⟩) 1 1) exE 1 m6 _ HD6.out (HE.out _ HB6.out) (exL_small _ _ (by decide) (by decide)).1 (exL_small _ _ (by decide) (by decide)).2
    rw [exE_tog] at this
    exact this)
  refine HC7.out.mono ?_
  intro e w7 hsaid
  obtain ⟨v7, rfl, hv7, hst7⟩ := hsaid
  obtain ⟨x7, y7, hve7⟩ := hv7.slice
  rw [show (exL 0 1 [] []).length = 1 from rfl] at hve7
  subst hve7
  have HB70 : Hid (Below w.heap.size w w7) := Lib.hid (below_from HB6.out hst7)
  have HK70 := Lib.hid (heap_below hst7 HK6.out)
  have HD70 := Lib.hid (HD6.out.below (rdLin_stable _) hst7)
  have HS70 := Lib.hid (Nat.le_trans HS6.out hst7.size)
  have HR7_70 := Lib.hid hv7
  have HR2_70 := Lib.hid (HR2_6.out.below hst7)
  have HN2_70 := Lib.hid (heap_below hst7 HN2_6.out)
  have HR3_70 := Lib.hid (HR3_6.out.below hst7)
  have HN3_70 := Lib.hid (heap_below hst7 HN3_6.out)
  have HR4_70 := Lib.hid (HR4_6.out.below hst7)
  have HN4_70 := Lib.hid (heap_below hst7 HN4_6.out)
  have HT7 := Lib.hid hst7
  clear hv7 hst7
  obtain ⟨q7, g7⟩ := blk HK70.out
  have r7 := on1 HK70.out
  have u7 := on1f HK70.out
  have e7 : ¬ w7.heap.size = w.heap.size + 1 + 1 := by have := HS70.out; omega
  go_upto_region 8 with fail
  obtain ⟨m7, hm7⟩ : ∃ m7, w7.alloc (.cells #[.slice x7 1 y7, .int .i64 0, .int .i64 2, .int .i64 0, .int .i64 2, .int .i64 0, .int .i64 1] 26) = m7 := ⟨_, rfl⟩
  rw [hm7]
  have hbm7 : Below w7.heap.size w7 m7 := hm7 ▸ below1 (Below.refl _ _) _
  have HN7_7 : Hid (m7.heap[w7.heap.size]? = some (.cells #[.slice x7 1 y7, .int .i64 0, .int .i64 2, .int .i64 0, .int .i64 2, .int .i64 0, .int .i64 1] 26)) := Lib.hid (hm7 ▸ heap_new _ _ rfl)
  have HB7 := Lib.hid (below_from HB70.out hbm7)
  have HK7 := Lib.hid (heap_below hbm7 HK70.out)
  have HD7 := Lib.hid (HD70.out.below (rdLin_stable _) hbm7)
  have HS7 := Lib.hid (Nat.le_trans HS70.out hbm7.size)
  have HR7_7 := Lib.hid (HR7_70.out.below hbm7)
  have HR2_7 := Lib.hid (HR2_70.out.below hbm7)
  have HN2_7 := Lib.hid (heap_below hbm7 HN2_70.out)
  have HR3_7 := Lib.hid (HR3_70.out.below hbm7)
  have HN3_7 := Lib.hid (heap_below hbm7 HN3_70.out)
  have HR4_7 := Lib.hid (HR4_70.out.below hbm7)
  have HN4_7 := Lib.hid (heap_below hbm7 HN4_70.out)
  clear hbm7 hm7 q7 g7 r7 u7 e7
  have H7 := Below.refl m7.heap.size m7
  have HHr : Hid (Calls Tryz.prog 25 #[.agg #[.slice x4 1 y4, .int .i64 0, .int .i64 0, .int .i64 0, .int .i64 2, .int .i64 0, .int .i64 0]] m7 fun e w' => e = .returned (.string ⟨#[120]⟩) ∧ Below m7.heap.size m7 w') := Lib.hid (by
    have := styHref_any _ exD m7 _ HR4_7.out.read (HE.out _ HB7.out) (exL_small _ _ (by decide) (by decide)).1 (exL_small _ _ (by decide) (by decide)).2
    rw [exD_href] at this
    exact this)
  have HBe : Hid (∀ W, Below m7.heap.size m7 W → Calls Tryz.prog 19 #[.agg #[.slice (some ⟨w.heap.size + 1, 0, none⟩) 1 1, .int .i64 0, .int .i64 2, .int .i64 0, .int .i64 2, .int .i64 0, .int .i64 0]] W fun e w' => e = .returned (.int .i64 1) ∧ Below W.heap.size W w') := Lib.hid fun W hW => by
    have := styBits_any (.slice (some ⟨w.heap.size + 1, 0, none⟩) 1 1) exE W _ (HD7.out.below (rdLin_stable _) hW) (HE.out _ (below_from HB7.out hW)) (exL_small _ _ (by decide) (by decide)).1 (exL_small _ _ (by decide) (by decide)).2
    rw [exE_bits] at this
    exact this
  have HBf : Hid (∀ W, Below m7.heap.size m7 W → Calls Tryz.prog 19 #[.agg #[.slice x7 1 y7, .int .i64 0, .int .i64 2, .int .i64 0, .int .i64 2, .int .i64 0, .int .i64 1]] W fun e w' => e = .returned (.int .i64 0) ∧ Below W.heap.size W w') := Lib.hid fun W hW => by
    have := styBits_any _ exF W _ ((HR7_7.out.read).below (rdLin_stable _) hW) (HE.out _ (below_from HB7.out hW)) (exL_small _ _ (by decide) (by decide)).1 (exL_small _ _ (by decide) (by decide)).2
    rw [exF_bits] at this
    exact this
  have HX2 := Lib.hid (exL_at HR2_7.out)
  have HX3 := Lib.hid (exL_at HR3_7.out)
  obtain ⟨q2, g2⟩ := blk HN2_7.out
  obtain ⟨q3, g3⟩ := blk HN3_7.out
  obtain ⟨q4, g4⟩ := blk HN4_7.out
  obtain ⟨q7, g7⟩ := blk HN7_7.out
  obtain ⟨p2, o2, n2, la2, lc2, p3, o3, n3, he2, _, _, _, a2, b2, _, hn2, hn3, hn4, hn5⟩ := HX2.out
  cases he2
  obtain ⟨p4, o4, n6, la4, lc4, p5, o5, n7, he4, _, _, _, a4, _, b5, hn6, hn7, hn8, hn9⟩ := HX3.out
  cases he4
  unfold maxLen at hn2 hn3 hn6 hn7
  clear HX2 HX3
  go_wp2_with fail
  with_reducible refine HHr.out.mono ?_
  rintro e w8 ⟨rfl, hb8⟩
  obtain ⟨s1, t1⟩ := blk (heap_below hb8 HK7.out)
  obtain ⟨s2, t2⟩ := blk (heap_below hb8 HN7_7.out)
  go_wp2_with fail
  with_reducible refine (HBe.out _ hb8).mono ?_
  rintro e w9 ⟨rfl, hst9⟩
  have hb9 := below_from hb8 hst9
  obtain ⟨s3, t3⟩ := blk (heap_below hb9 HN7_7.out)
  go_wp2_with fail
  with_reducible refine (HBf.out _ hb9).mono ?_
  rintro e w10 ⟨rfl, hst10⟩
  have hb10 := below_from hb9 hst10
  go_wp2_with fail
  go_ret
  exact ⟨rfl, below_from HB7.out hb10⟩
end Go.Proofs.YtpndnbjpnajaaaaGreatDoor
namespace Go.Proofs.YtpndnbjpnajaaaaGreatDoor
open Go.ChangeShapes Go.WideShapes Go.ChangeAt Go.RowKit
open Go.Proofs.Qw Go.Deep
section
variable {H : Type} {enc : TypeId × Value → H} {w : World} {base : Nat} {held : Bool}
theorem open_ints {v : Value} {d : DataW H} {ps : List MemPlace} (hv : ∃ a n c, v = .slice a n c) (h : DataW.Trod enc Tryz.prog w base (fun _ => true) held 39 v d ps) : ∃ x : List Int, IntsR false w (fun _ => True) v x := by
  obtain ⟨fuel, hf⟩ := h
  obtain ⟨v', xs, e, hs, _⟩ := open_row (t0 := 3) (k := 1) (R := rdOf encInt) (fun _ _ => True) Tryz.underlying39 (by kernel_rfl) Nat.one_pos hf (fun n cs y h => by
    obtain ⟨z, rfl, _, _⟩ := DataW.trod_int Tryz.underlying3 h
    exact ⟨z, rfl, trivial⟩)
  have : v = v' := by
    obtain ⟨a, n, c, rfl⟩ := hv
    have e : [Value.slice a n c] = [v'] := e
    cases e
    rfl
  exact ⟨xs, this ▸ hs⟩
end
end Go.Proofs.YtpndnbjpnajaaaaGreatDoor
