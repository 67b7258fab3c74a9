/- What styling does: styling.Toggle. -/
import Derived.Test.YtpndnbjpnajaaaaGreatDoorStyToggle
import Derived.Test.YtpndnbjpnajaaaaGreatDoorLawPos
import Derived.Test.YtpndnbjpnajaaaaGreatDoorRefPart
import Derived.Test.YtpndnbjpnajaaaaGreatDoorCells
import Derived.Test.YtpndnbjpnajaaaaGreatDoorRefMay
namespace Go.Proofs.YtpndnbjpnajaaaaGreatDoor
open Go.RowKit
open Go.Proofs.Qw
attribute [local go_sem] Oper.semAt_some
theorem set_st (w : World) (B : Nat) {x0 x1 x2 x3 x4 x5 x6 : Value} {t : TypeId} (h : w.heap[B]? = some (.cells #[x0, x1, x2, x3, x4, x5, x6] t)) (a b c d e f g : Value) :
    ∃ W, ((((((w.setCell ⟨B, 0, none⟩ a).setCell ⟨B, 1, none⟩ b).setCell ⟨B, 2, none⟩ c).setCell ⟨B, 3, none⟩ d).setCell ⟨B, 4, none⟩ e).setCell ⟨B, 5, none⟩ f).setCell ⟨B, 6, none⟩ g = W ∧
      W.heap[B]? = some (.cells #[a, b, c, d, e, f, g] t) ∧ (∀ n, n ≤ B → Below n w W) ∧ (∀ k, k ≠ B → W.heap[k]? = w.heap[k]?) ∧ W.heap.size = w.heap.size :=
  ⟨_, rfl, by simp [heap_set, putIn, h], fun n hn => (((((((Below.refl _ _).setCell hn _).setCell hn _).setCell hn _).setCell hn _).setCell hn _).setCell hn _).setCell hn _, fun k hk => by simp [heap_set, Ne.symm hk], by simp⟩
theorem slice_blk {α : Type} {t : TypeId} {k : Nat} {enc : α → List Value} (hk : ∀ x, (enc x).length = k) {w : World} {S : Nat → Prop} {b : Nat} (xs : List α) (h : w.heap[b]? = some (.cells (xs.map enc).flatten.toArray t)) (hS : S b) (hm : xs.length ≤ maxLen) {u : TypeId} :
    SliceR u k (rdOf enc) false w S (.slice (some ⟨b, 0, none⟩) xs.length xs.length) xs := by
  refine ⟨_, xs.length, rfl, Nat.le_refl _, hm, .inr ⟨b, 0, rfl, hS, (Array.getElem?_eq_some_iff.1 h).1, fun h => (by cases h), fun i x hx => ⟨enc x, hk x, rfl, fun j u hu => ?_⟩⟩⟩
  rw [cell_of_heap h, Nat.zero_add, List.getElem?_toArray]
  exact flatten_at (xs.map enc) i (enc x) j u (by simp; intro a _; exact hk a) (by rw [List.getElem?_map, hx]; rfl) hu
set_option maxRecDepth 100000 in
set_option maxHeartbeats 8000000 in
theorem styToggle_any (v : Value) (s : St) (t : Int) (w : World) (S : Nat → Prop) (h : LinsR w S v s.lines) (he : EnvT w) (hs : Small s.lines) (hf : Fits s.lines) :
    Calls Tryz.prog 29 #[stV v s, .int .i64 t] w (StSaid (toggleS s t) w) := by
  obtain ⟨W1, hW1, hB, hz, k0, k1, k2⟩ := st_val_st w v s (.int .i64 t) 3
  have HB : Hid (∀ W, Below W1.heap.size W1 W → W.heap[w.heap.size]? = some (.cells #[v, .int .i64 s.anc.line, .int .i64 s.anc.col, .int .i64 s.foc.line, .int .i64 s.foc.col, .int .i64 s.on, .int .i64 s.off] 26) ∧ W.heap[w.heap.size + 1]? = some (.cells #[.int .i64 t] 3) ∧ W.heap[w.heap.size + 2]? = some (.cells #[.slice none 0 0, .int .i64 0, .int .i64 0, .int .i64 0, .int .i64 0, .int .i64 0, .int .i64 0] 26)) := Lib.hid fun W hW => ⟨heap_below hW k0, heap_below hW k1, heap_below hW k2⟩
  have hs1 := hB.size
  have H1 := Lib.hid hB
  have hw0 : Below W1.heap.size W1 W1 := Below.refl _ _
  have HV : Hid (∀ W, Below W1.heap.size W1 W → LinsR W S v s.lines) := Lib.hid fun W hW => h.below (rdLin_stable _) (hB.trans (hW.mono hs1))
  have HE : Hid (∀ W, Below W1.heap.size W1 W → EnvT W) := Lib.hid fun W hW => (he.below hB).below hW
  have HM : Hid (∀ W, Below W1.heap.size W1 W → Calls Tryz.prog 27 #[stV v s] W fun e w' => e = .returned (.bool (mayS s)) ∧ Below W.heap.size W w') := Lib.hid fun W hW => stMay_any v s W S (HV.out W hW) (HE.out W hW) hs
  have HO : Hid (∀ W, Below W1.heap.size W1 W → Calls Tryz.prog 75 #[stV v s] W fun e w' => e = .returned (.bool (!decide (s.anc = s.foc))) ∧ Below W.heap.size W w') := Lib.hid fun W hW => styOpen_any v s W
  have HBi : Hid (∀ W, Below W1.heap.size W1 W → Calls Tryz.prog 19 #[stV v s] W fun e w' => e = .returned (.int .i64 (bitsS s)) ∧ Below W.heap.size W w') := Lib.hid fun W hW => styBits_any v s W S (HV.out W hW) (HE.out W hW) hs hf
  have HOw : Hid (∀ W, Below W1.heap.size W1 W → Calls Tryz.prog 41 #[stV v s] W fun e w' => ∃ v', e = .returned (stV v' s) ∧ DocR true w' (fun b => W.heap.size ≤ b) v' s.lines ∧ Below W.heap.size W w') := Lib.hid fun W hW => stOwn_any v s W S (HV.out W hW) hf
  have HCh : Hid (mayS s = true → ∀ W, Below W1.heap.size W1 W → Calls Tryz.prog 95 #[stV v s, .func (.func 96) #[] #[.pointer (some ⟨w.heap.size + 1, 0, none⟩)]] W (StSaid (staysS s (togD s t)) W)) := Lib.hid fun hm W hW => by
    have := styChanged_any v s 96 #[.pointer (some ⟨w.heap.size + 1, 0, none⟩)] (togD s t) W S (HV.out W hW) (HE.out W hW) hs (enters_of Tryz.func96 (by kernel_rfl) rfl)
      (fun _ X hX => styToggle1_any (w.heap.size + 1) v s.lines (spanS s).1 (spanS s).2 t X S (HV.out X (below_from hW hX)) (HE.out X (below_from hW hX)) hs hf (HB.out X (below_from hW hX)).2.1)
    unfold changedS at this
    rw [if_pos hm] at this
    exact this
  have HT : Hid (∀ W : World, Calls Tryz.prog 93 #[] W fun e w' => e = .returned (.agg #[.int .i64 1, .int .i64 2, .int .i64 4, .int .i64 8]) ∧ Below W.heap.size W w') := Lib.hid fun W => by
    go_enter Tryz.func93, Tryz.ntmps93
    go_wp2_with fail
    refine bodyPost_ret (results_cell_row rfl _ _ W.heap.size _ _ _ _ rfl (heap_new _ _ rfl) Tryz.underlying82 rfl (by kernel_rfl)) rfl ?_
    exact ⟨rfl, by (repeat' (first | (with_reducible exact Below.refl _ _) | (with_reducible assumption) | (with_reducible refine Below.alloc ?_ ?_ _) | (with_reducible refine Below.drew ?_) | (with_reducible refine drewN_below ?_) | (with_reducible refine Below.setCell ?_ ?_ _) | go_size))⟩
  have HR : Hid (toggleS s t = if mayS s = true ∧ four t = true then (if s.anc = s.foc then (togC s t, 0) else staysS s (togD s t)) else (noS, 1)) := Lib.hid rfl
  have HTC : Hid (togC s t = ⟨s.lines, s.anc, s.foc, bits .or .i64 (bits .andNot .i64 s.on t) (bits .andNot .i64 t (bitsS s)), bits .or .i64 (bits .andNot .i64 s.off t) (bits .andNot .i64 t (bits .andNot .i64 t (bitsS s)))⟩) := Lib.hid rfl
  obtain ⟨va, vc, rfl⟩ := h.slice
  clear h he hs hf hB
  obtain ⟨w2, hw2⟩ : ∃ w2, W1 = w2 := ⟨_, rfl⟩
  cases hm : mayS s
  · rw [hm] at HM HR
    have HR2 : Hid (toggleS s t = (noS, 1)) := Lib.hid (HR.out.trans (if_neg (by simp)))
    obtain ⟨p0, f0⟩ := blk k0
    clear HR HCh hm k0 k1 k2 hw2
    go_enter Tryz.func29, Tryz.ntmps29
    go_wp2_with (go_at_call 93; refine (HT.out _).mono ?_; rintro e w2 ⟨rfl, hst2⟩)
    have hb2 := below_from hw0 hst2
    obtain ⟨w3, hw3⟩ : ∃ w3, w2.alloc (.cells #[.int .i64 1, .int .i64 2, .int .i64 4, .int .i64 8] 82) = w3 := ⟨_, rfl⟩
    rw [hw3]
    have hb23 : Below w2.heap.size w2 w3 := hw3 ▸ below1 (Below.refl _ _) _
    have n3 : w3.heap[w2.heap.size]? = some (.cells #[.int .i64 1, .int .i64 2, .int .i64 4, .int .i64 8] 82) := hw3 ▸ heap_new _ _ rfl
    have hb3 := below_from hb2 hb23
    have HCt : Hid (∀ W, Below w3.heap.size w3 W → Calls Tryz.prog 94 #[.slice (some ⟨w2.heap.size, 0, none⟩) 4 4, .int .i64 t] W fun e w' => e = .returned (.bool (four t)) ∧ Below W.heap.size W w') := Lib.hid fun W hW => by
      have := containsInts_any _ [1, 2, 4, 8] t W (fun _ => True) (slice_blk (enc := encInt) (fun _ => rfl) [1, 2, 4, 8] (heap_below hW n3) trivial (by decide))
      rw [four_any] at this
      exact this.mono fun _ _ ⟨h1, h2⟩ => ⟨h1, h2 ▸ Below.refl _ _⟩
    clear hw3 n3 p0 f0
    refine wp_region_grew w3.heap.size (by kernel_rfl) (by kernel_rfl) ?_
    refine BigFrame.wpQuiet_want (by kernel_rfl) (fun K hK => ?_)
    refine quiet_val ?_ (fun W hW => ?_) (hK _ ?_)
    rotate_left 1
    · skip
      obtain ⟨p0, f0⟩ := blk (HB.out _ (below_from hb3 hW)).1
      obtain ⟨p1, f1⟩ := blk (HB.out _ (below_from hb3 hW)).2.1
      go_simp
      try rfl
    clear hK
    clear K
    try simp only [Act.put, List.setIfInBounds_toArray, List.set_cons_zero, List.set_cons_succ]
    refine BigFrame.wpQuiet_want (by kernel_rfl) (fun K hK => ?_)
    refine quiet_calls (f := ?_) (args := ?_) ?_ (fun W hW => ?_) (fun W hW => ?_) (hK _ ?_)
    rotate_left 3
    · go_simp
      constructor <;> rfl
    · refine (HM.out _ (below_from hb3 hW)).mono ?_
      rintro e W2 ⟨rfl, hbW⟩
      refine ⟨?_, below_from hW hbW⟩
      rfl
    clear hK
    clear K
    try simp only [Act.put, List.setIfInBounds_toArray, List.set_cons_zero, List.set_cons_succ]
    refine BigFrame.wpQuiet_want (by kernel_rfl) (fun K hK => ?_)
    refine quiet_val ?_ (fun W hW => ?_) (hK _ ?_)
    rotate_left 1
    · skip
      go_simp
      try rfl
    clear hK
    clear K
    try simp only [Act.put, List.setIfInBounds_toArray, List.set_cons_zero, List.set_cons_succ]
    refine BigFrame.wpQuiet_want (by kernel_rfl) (fun K hK => ?_)
    refine quiet_val ?_ (fun W hW => ?_) (hK _ ?_)
    rotate_left 1
    · skip
      go_simp
      try rfl
    clear hK
    clear K
    try simp only [Act.put, List.setIfInBounds_toArray, List.set_cons_zero, List.set_cons_succ]
    refine BigFrame.wpQuiet_skip (by kernel_rfl) ?_
    try simp only [Act.put, List.setIfInBounds_toArray, List.set_cons_zero, List.set_cons_succ]
    refine BigFrame.wpQuiet_skip (by kernel_rfl) ?_
    try simp only [Act.put, List.setIfInBounds_toArray, List.set_cons_zero, List.set_cons_succ]
    refine BigFrame.wpQuiet_skip (by kernel_rfl) ?_
    try simp only [Act.put, List.setIfInBounds_toArray, List.set_cons_zero, List.set_cons_succ]
    refine BigFrame.wpQuiet_skip (by kernel_rfl) ?_
    try simp only [Act.put, List.setIfInBounds_toArray, List.set_cons_zero, List.set_cons_succ]
    refine BigFrame.wpQuiet_want (by kernel_rfl) (fun K hK => ?_)
    refine quiet_val ?_ (fun W hW => ?_) (hK _ ?_)
    rotate_left 1
    · skip
      go_simp
      try rfl
    clear hK
    clear K
    try simp only [Act.put, List.setIfInBounds_toArray, List.set_cons_zero, List.set_cons_succ]
    refine BigFrame.wpQuiet_want (by kernel_rfl) (fun K hK => ?_)
    refine quiet_val ?_ (fun W hW => ?_) (hK _ ?_)
    rotate_left 1
    · skip
      go_simp
      try rfl
    clear hK
    clear K
    try simp only [Act.put, List.setIfInBounds_toArray, List.set_cons_zero, List.set_cons_succ]
    refine wpQuiet_nil (fun X6 hstX6 => ?_)
    have hcX6 := below_from hb3 hstX6
    obtain ⟨p2, f2⟩ := blk (HB.out _ hcX6).2.2
    go_wp2_with fail
    refine bodyPost_ret (results_st_e rfl _ _ (w.heap.size + 2) (.slice none 0 0) (.int .i64 0) (.int .i64 0) (.int .i64 0) (.int .i64 0) (.int .i64 0) (.int .i64 0) (.int .i64 1) rfl rfl (by simp [heap_set, putIn, (HB.out _ hcX6).2.2])) rfl ?_
    unfold StSaid
    rw [HR2.out]
    have hfin := H1.out.trans (hcX6.mono hs1)
    exact ⟨_, rfl, SliceR.nil _ _ _ _ _ _, by (repeat' (first | (with_reducible exact Below.refl _ _) | (with_reducible assumption) | (with_reducible refine Below.alloc ?_ ?_ _) | (with_reducible refine Below.drew ?_) | (with_reducible refine drewN_below ?_) | (with_reducible refine Below.setCell ?_ ?_ _) | go_size))⟩
  · have HCh2 := Lib.hid (HCh.out hm)
    rw [hm] at HM HR
    clear HCh hm hw2
    cases hfo : four t
    · rw [hfo] at HR
      have HF := Lib.hid hfo
      have HR2 : Hid (toggleS s t = (noS, 1)) := Lib.hid (HR.out.trans (if_neg (by simp)))
      obtain ⟨p0, f0⟩ := blk k0
      clear HR HCh2 hfo k0 k1 k2
      go_enter Tryz.func29, Tryz.ntmps29
      go_wp2_with (go_at_call 93; refine (HT.out _).mono ?_; rintro e w2 ⟨rfl, hst2⟩)
      have hb2 := below_from hw0 hst2
      obtain ⟨w3, hw3⟩ : ∃ w3, w2.alloc (.cells #[.int .i64 1, .int .i64 2, .int .i64 4, .int .i64 8] 82) = w3 := ⟨_, rfl⟩
      rw [hw3]
      have hb23 : Below w2.heap.size w2 w3 := hw3 ▸ below1 (Below.refl _ _) _
      have n3 : w3.heap[w2.heap.size]? = some (.cells #[.int .i64 1, .int .i64 2, .int .i64 4, .int .i64 8] 82) := hw3 ▸ heap_new _ _ rfl
      have hb3 := below_from hb2 hb23
      have HCt : Hid (∀ W, Below w3.heap.size w3 W → Calls Tryz.prog 94 #[.slice (some ⟨w2.heap.size, 0, none⟩) 4 4, .int .i64 t] W fun e w' => e = .returned (.bool (four t)) ∧ Below W.heap.size W w') := Lib.hid fun W hW => by
        have := containsInts_any _ [1, 2, 4, 8] t W (fun _ => True) (slice_blk (enc := encInt) (fun _ => rfl) [1, 2, 4, 8] (heap_below hW n3) trivial (by decide))
        rw [four_any] at this
        exact this.mono fun _ _ ⟨h1, h2⟩ => ⟨h1, h2 ▸ Below.refl _ _⟩
      clear hw3 n3 p0 f0
      rw [HF.out] at HCt
      refine wp_region_grew w3.heap.size (by kernel_rfl) (by kernel_rfl) ?_
      refine BigFrame.wpQuiet_want (by kernel_rfl) (fun K hK => ?_)
      refine quiet_val ?_ (fun W hW => ?_) (hK _ ?_)
      rotate_left 1
      · skip
        obtain ⟨p0, f0⟩ := blk (HB.out _ (below_from hb3 hW)).1
        obtain ⟨p1, f1⟩ := blk (HB.out _ (below_from hb3 hW)).2.1
        go_simp
        try rfl
      clear hK
      clear K
      try simp only [Act.put, List.setIfInBounds_toArray, List.set_cons_zero, List.set_cons_succ]
      refine BigFrame.wpQuiet_want (by kernel_rfl) (fun K hK => ?_)
      refine quiet_calls (f := ?_) (args := ?_) ?_ (fun W hW => ?_) (fun W hW => ?_) (hK _ ?_)
      rotate_left 3
      · go_simp
        constructor <;> rfl
      · refine (HM.out _ (below_from hb3 hW)).mono ?_
        rintro e W2 ⟨rfl, hbW⟩
        refine ⟨?_, below_from hW hbW⟩
        rfl
      clear hK
      clear K
      try simp only [Act.put, List.setIfInBounds_toArray, List.set_cons_zero, List.set_cons_succ]
      refine BigFrame.wpQuiet_want (by kernel_rfl) (fun K hK => ?_)
      refine quiet_val ?_ (fun W hW => ?_) (hK _ ?_)
      rotate_left 1
      · skip
        go_simp
        try rfl
      clear hK
      clear K
      try simp only [Act.put, List.setIfInBounds_toArray, List.set_cons_zero, List.set_cons_succ]
      refine BigFrame.wpQuiet_want (by kernel_rfl) (fun K hK => ?_)
      refine quiet_val ?_ (fun W hW => ?_) (hK _ ?_)
      rotate_left 1
      · skip
        go_simp
        try rfl
      clear hK
      clear K
      try simp only [Act.put, List.setIfInBounds_toArray, List.set_cons_zero, List.set_cons_succ]
      refine BigFrame.wpQuiet_want (by kernel_rfl) (fun K hK => ?_)
      refine quiet_val ?_ (fun W hW => ?_) (hK _ ?_)
      rotate_left 1
      · skip
        go_simp
        try rfl
      clear hK
      clear K
      try simp only [Act.put, List.setIfInBounds_toArray, List.set_cons_zero, List.set_cons_succ]
      refine BigFrame.wpQuiet_want (by kernel_rfl) (fun K hK => ?_)
      refine quiet_val ?_ (fun W hW => ?_) (hK _ ?_)
      rotate_left 1
      · skip
        obtain ⟨p0, f0⟩ := blk (HB.out _ (below_from hb3 hW)).1
        obtain ⟨p1, f1⟩ := blk (HB.out _ (below_from hb3 hW)).2.1
        go_simp
        try rfl
      clear hK
      clear K
      try simp only [Act.put, List.setIfInBounds_toArray, List.set_cons_zero, List.set_cons_succ]
      refine BigFrame.wpQuiet_want (by kernel_rfl) (fun K hK => ?_)
      refine quiet_calls (f := ?_) (args := ?_) ?_ (fun W hW => ?_) (fun W hW => ?_) (hK _ ?_)
      rotate_left 3
      · go_simp
        constructor <;> rfl
      · refine (HCt.out _ hW).mono ?_
        rintro e W2 ⟨rfl, hbW⟩
        refine ⟨?_, below_from hW hbW⟩
        rfl
      clear hK
      clear K
      try simp only [Act.put, List.setIfInBounds_toArray, List.set_cons_zero, List.set_cons_succ]
      refine BigFrame.wpQuiet_want (by kernel_rfl) (fun K hK => ?_)
      refine quiet_val ?_ (fun W hW => ?_) (hK _ ?_)
      rotate_left 1
      · skip
        go_simp
        try rfl
      clear hK
      clear K
      try simp only [Act.put, List.setIfInBounds_toArray, List.set_cons_zero, List.set_cons_succ]
      refine BigFrame.wpQuiet_want (by kernel_rfl) (fun K hK => ?_)
      refine quiet_val ?_ (fun W hW => ?_) (hK _ ?_)
      rotate_left 1
      · skip
        go_simp
        try rfl
      clear hK
      clear K
      try simp only [Act.put, List.setIfInBounds_toArray, List.set_cons_zero, List.set_cons_succ]
      refine BigFrame.wpQuiet_want (by kernel_rfl) (fun K hK => ?_)
      refine quiet_val ?_ (fun W hW => ?_) (hK _ ?_)
      rotate_left 1
      · skip
        go_simp
        try rfl
      clear hK
      clear K
      try simp only [Act.put, List.setIfInBounds_toArray, List.set_cons_zero, List.set_cons_succ]
      refine wpQuiet_nil (fun X6 hstX6 => ?_)
      have hcX6 := below_from hb3 hstX6
      obtain ⟨p2, f2⟩ := blk (HB.out _ hcX6).2.2
      go_wp2_with fail
      refine bodyPost_ret (results_st_e rfl _ _ (w.heap.size + 2) (.slice none 0 0) (.int .i64 0) (.int .i64 0) (.int .i64 0) (.int .i64 0) (.int .i64 0) (.int .i64 0) (.int .i64 1) rfl rfl (by simp [heap_set, putIn, (HB.out _ hcX6).2.2])) rfl ?_
      unfold StSaid
      rw [HR2.out]
      have hfin := H1.out.trans (hcX6.mono hs1)
      exact ⟨_, rfl, SliceR.nil _ _ _ _ _ _, by (repeat' (first | (with_reducible exact Below.refl _ _) | (with_reducible assumption) | (with_reducible refine Below.alloc ?_ ?_ _) | (with_reducible refine Below.drew ?_) | (with_reducible refine drewN_below ?_) | (with_reducible refine Below.setCell ?_ ?_ _) | go_size))⟩
    · rw [hfo] at HR
      have HF := Lib.hid hfo
      rw [if_pos ⟨rfl, rfl⟩] at HR
      by_cases hc : s.anc = s.foc
      · have HR2 : Hid (toggleS s t = (togC s t, 0)) := Lib.hid (HR.out.trans (if_pos hc))
        rw [decide_eq_true hc] at HO
        obtain ⟨p0, f0⟩ := blk k0
        obtain ⟨r, hr⟩ : ∃ r, bitsS s = r := ⟨_, rfl⟩
        rw [hr] at HBi HTC
        clear HR HCh2 hfo hc hr k0 k1 k2
        go_enter Tryz.func29, Tryz.ntmps29
        go_wp2_with (go_at_call 93; refine (HT.out _).mono ?_; rintro e w2 ⟨rfl, hst2⟩)
        have hb2 := below_from hw0 hst2
        obtain ⟨w3, hw3⟩ : ∃ w3, w2.alloc (.cells #[.int .i64 1, .int .i64 2, .int .i64 4, .int .i64 8] 82) = w3 := ⟨_, rfl⟩
        rw [hw3]
        have hb23 : Below w2.heap.size w2 w3 := hw3 ▸ below1 (Below.refl _ _) _
        have n3 : w3.heap[w2.heap.size]? = some (.cells #[.int .i64 1, .int .i64 2, .int .i64 4, .int .i64 8] 82) := hw3 ▸ heap_new _ _ rfl
        have hb3 := below_from hb2 hb23
        have HCt : Hid (∀ W, Below w3.heap.size w3 W → Calls Tryz.prog 94 #[.slice (some ⟨w2.heap.size, 0, none⟩) 4 4, .int .i64 t] W fun e w' => e = .returned (.bool (four t)) ∧ Below W.heap.size W w') := Lib.hid fun W hW => by
          have := containsInts_any _ [1, 2, 4, 8] t W (fun _ => True) (slice_blk (enc := encInt) (fun _ => rfl) [1, 2, 4, 8] (heap_below hW n3) trivial (by decide))
          rw [four_any] at this
          exact this.mono fun _ _ ⟨h1, h2⟩ => ⟨h1, h2 ▸ Below.refl _ _⟩
        clear hw3 n3 p0 f0
        rw [HF.out] at HCt
        refine wp_region_grew w3.heap.size (by kernel_rfl) (by kernel_rfl) ?_
        refine BigFrame.wpQuiet_want (by kernel_rfl) (fun K hK => ?_)
        refine quiet_val ?_ (fun W hW => ?_) (hK _ ?_)
        rotate_left 1
        · skip
          obtain ⟨p0, f0⟩ := blk (HB.out _ (below_from hb3 hW)).1
          obtain ⟨p1, f1⟩ := blk (HB.out _ (below_from hb3 hW)).2.1
          go_simp
          try rfl
        clear hK
        clear K
        try simp only [Act.put, List.setIfInBounds_toArray, List.set_cons_zero, List.set_cons_succ]
        refine BigFrame.wpQuiet_want (by kernel_rfl) (fun K hK => ?_)
        refine quiet_calls (f := ?_) (args := ?_) ?_ (fun W hW => ?_) (fun W hW => ?_) (hK _ ?_)
        rotate_left 3
        · go_simp
          constructor <;> rfl
        · refine (HM.out _ (below_from hb3 hW)).mono ?_
          rintro e W2 ⟨rfl, hbW⟩
          refine ⟨?_, below_from hW hbW⟩
          rfl
        clear hK
        clear K
        try simp only [Act.put, List.setIfInBounds_toArray, List.set_cons_zero, List.set_cons_succ]
        refine BigFrame.wpQuiet_want (by kernel_rfl) (fun K hK => ?_)
        refine quiet_val ?_ (fun W hW => ?_) (hK _ ?_)
        rotate_left 1
        · skip
          go_simp
          try rfl
        clear hK
        clear K
        try simp only [Act.put, List.setIfInBounds_toArray, List.set_cons_zero, List.set_cons_succ]
        refine BigFrame.wpQuiet_want (by kernel_rfl) (fun K hK => ?_)
        refine quiet_val ?_ (fun W hW => ?_) (hK _ ?_)
        rotate_left 1
        · skip
          go_simp
          try rfl
        clear hK
        clear K
        try simp only [Act.put, List.setIfInBounds_toArray, List.set_cons_zero, List.set_cons_succ]
        refine BigFrame.wpQuiet_want (by kernel_rfl) (fun K hK => ?_)
        refine quiet_val ?_ (fun W hW => ?_) (hK _ ?_)
        rotate_left 1
        · skip
          go_simp
          try rfl
        clear hK
        clear K
        try simp only [Act.put, List.setIfInBounds_toArray, List.set_cons_zero, List.set_cons_succ]
        refine BigFrame.wpQuiet_want (by kernel_rfl) (fun K hK => ?_)
        refine quiet_val ?_ (fun W hW => ?_) (hK _ ?_)
        rotate_left 1
        · skip
          obtain ⟨p0, f0⟩ := blk (HB.out _ (below_from hb3 hW)).1
          obtain ⟨p1, f1⟩ := blk (HB.out _ (below_from hb3 hW)).2.1
          go_simp
          try rfl
        clear hK
        clear K
        try simp only [Act.put, List.setIfInBounds_toArray, List.set_cons_zero, List.set_cons_succ]
        refine BigFrame.wpQuiet_want (by kernel_rfl) (fun K hK => ?_)
        refine quiet_calls (f := ?_) (args := ?_) ?_ (fun W hW => ?_) (fun W hW => ?_) (hK _ ?_)
        rotate_left 3
        · go_simp
          constructor <;> rfl
        · refine (HCt.out _ hW).mono ?_
          rintro e W2 ⟨rfl, hbW⟩
          refine ⟨?_, below_from hW hbW⟩
          rfl
        clear hK
        clear K
        try simp only [Act.put, List.setIfInBounds_toArray, List.set_cons_zero, List.set_cons_succ]
        refine BigFrame.wpQuiet_want (by kernel_rfl) (fun K hK => ?_)
        refine quiet_val ?_ (fun W hW => ?_) (hK _ ?_)
        rotate_left 1
        · skip
          go_simp
          try rfl
        clear hK
        clear K
        try simp only [Act.put, List.setIfInBounds_toArray, List.set_cons_zero, List.set_cons_succ]
        refine BigFrame.wpQuiet_want (by kernel_rfl) (fun K hK => ?_)
        refine quiet_val ?_ (fun W hW => ?_) (hK _ ?_)
        rotate_left 1
        · skip
          go_simp
          try rfl
        clear hK
        clear K
        try simp only [Act.put, List.setIfInBounds_toArray, List.set_cons_zero, List.set_cons_succ]
        refine BigFrame.wpQuiet_want (by kernel_rfl) (fun K hK => ?_)
        refine quiet_val ?_ (fun W hW => ?_) (hK _ ?_)
        rotate_left 1
        · skip
          go_simp
          try rfl
        clear hK
        clear K
        try simp only [Act.put, List.setIfInBounds_toArray, List.set_cons_zero, List.set_cons_succ]
        refine wpQuiet_nil (fun X6 hstX6 => ?_)
        have hcX6 := below_from hb3 hstX6
        obtain ⟨p0, f0⟩ := blk (HB.out _ hcX6).1
        go_wp2_with (go_at_call 75; refine (HO.out _ hcX6).mono ?_; rintro e w7 ⟨rfl, hst7⟩; have hb7 := below_from hcX6 hst7; skip)
        clear p0 f0
        refine wp_region_grew w7.heap.size (by kernel_rfl) (by kernel_rfl) ?_
        refine BigFrame.wpQuiet_want (by kernel_rfl) (fun K hK => ?_)
        refine quiet_val ?_ (fun W hW => ?_) (hK _ ?_)
        rotate_left 1
        · skip
          obtain ⟨p0, f0⟩ := blk (HB.out _ (below_from hb7 hW)).1
          obtain ⟨p1, f1⟩ := blk (HB.out _ (below_from hb7 hW)).2.1
          go_simp
          try rfl
        clear hK
        clear K
        try simp only [Act.put, List.setIfInBounds_toArray, List.set_cons_zero, List.set_cons_succ]
        refine BigFrame.wpQuiet_want (by kernel_rfl) (fun K hK => ?_)
        refine quiet_val ?_ (fun W hW => ?_) (hK _ ?_)
        rotate_left 1
        · skip
          obtain ⟨p0, f0⟩ := blk (HB.out _ (below_from hb7 hW)).1
          obtain ⟨p1, f1⟩ := blk (HB.out _ (below_from hb7 hW)).2.1
          go_simp
          try rfl
        clear hK
        clear K
        try simp only [Act.put, List.setIfInBounds_toArray, List.set_cons_zero, List.set_cons_succ]
        refine BigFrame.wpQuiet_want (by kernel_rfl) (fun K hK => ?_)
        refine quiet_calls (f := ?_) (args := ?_) ?_ (fun W hW => ?_) (fun W hW => ?_) (hK _ ?_)
        rotate_left 3
        · go_simp
          constructor <;> rfl
        · refine (HBi.out _ (below_from hb7 hW)).mono ?_
          rintro e W2 ⟨rfl, hbW⟩
          refine ⟨?_, below_from hW hbW⟩
          rfl
        clear hK
        clear K
        try simp only [Act.put, List.setIfInBounds_toArray, List.set_cons_zero, List.set_cons_succ]
        refine BigFrame.wpQuiet_want (by kernel_rfl) (fun K hK => ?_)
        refine quiet_val ?_ (fun W hW => ?_) (hK _ ?_)
        rotate_left 1
        · skip
          go_simp
          try rfl
        clear hK
        clear K
        try simp only [Act.put, List.setIfInBounds_toArray, List.set_cons_zero, List.set_cons_succ]
        refine BigFrame.wpQuiet_want (by kernel_rfl) (fun K hK => ?_)
        refine quiet_val ?_ (fun W hW => ?_) (hK _ ?_)
        rotate_left 1
        · skip
          go_simp
          try rfl
        clear hK
        clear K
        try simp only [Act.put, List.setIfInBounds_toArray, List.set_cons_zero, List.set_cons_succ]
        refine wpQuiet_nil (fun X8 hstX8 => ?_)
        have hcX8 := below_from hb7 hstX8
        obtain ⟨p0, f0⟩ := blk (HB.out _ hcX8).1
        go_wp2_with (go_at_call 41; refine (HOw.out _ hcX8).mono ?_; rintro e w9 ⟨v9, rfl, hv9, hst9⟩; obtain ⟨a9, c9, rfl⟩ := hv9.slice; have hb9 := below_from hcX8 hst9; have HV9 := Lib.hid hv9; clear hv9; obtain ⟨q0, g0⟩ := blk (HB.out _ hb9).1)
        obtain ⟨w10, hw10, n10, b10, o10, z10⟩ := set_st w9 w.heap.size (HB.out _ hb9).1 (.slice a9 s.lines.length c9) (.int .i64 s.anc.line) (.int .i64 s.anc.col) (.int .i64 s.foc.line) (.int .i64 s.foc.col) (.int .i64 s.on) (.int .i64 s.off)
        rw [hw10]
        have HX10 := Lib.hid (And.intro n10 (And.intro ((o10 (w.heap.size + 1) (by omega)).trans (HB.out _ hb9).2.1) (And.intro ((o10 (w.heap.size + 2) (by omega)).trans (HB.out _ hb9).2.2) (And.intro b10 (And.intro o10 z10)))))
        clear hw10 q0 g0 n10 b10 o10 z10 p0 f0
        obtain ⟨p0, f0⟩ := blk HX10.out.1
        obtain ⟨p1, f1⟩ := blk HX10.out.2.1
        obtain ⟨p2, f2⟩ := blk HX10.out.2.2.1
        go_region
        go_wp2_with fail
        refine bodyPost_ret (results_st_e rfl _ _ (w.heap.size + 2) (.slice a9 s.lines.length c9) (.int .i64 s.anc.line) (.int .i64 s.anc.col) (.int .i64 s.foc.line) (.int .i64 s.foc.col) (.int .i64 (bits .or .i64 (bits .andNot .i64 s.on t) (bits .andNot .i64 t r))) (.int .i64 (bits .or .i64 (bits .andNot .i64 s.off t) (bits .andNot .i64 t (bits .andNot .i64 t r)))) (.int .i64 0) rfl rfl (by rw [drew_heap]; simp [heap_set, putIn, HX10.out.2.2.1])) rfl ?_
        unfold StSaid
        rw [HR2.out, HTC.out]
        have hb10 : Below w.heap.size w w10 := (H1.out.trans (hb9.mono hs1)).trans (HX10.out.2.2.2.1 _ (Nat.le_refl _))
        have hv10 : DocR true w10 (fun b => w.heap.size + 3 ≤ b) (.slice a9 s.lines.length c9) s.lines := SliceR.stable (rdLin_stable true) HV9.out ⟨Nat.le_of_eq HX10.out.2.2.2.2.2.symm, fun b hb _ => HX10.out.2.2.2.2.1 b (fun e => by have hb : X8.heap.size ≤ b := hb; have := hcX8.size; omega)⟩ (fun b hb _ => by have hb : X8.heap.size ≤ b := hb; have := hcX8.size; show w.heap.size + 3 ≤ b; omega)
        exact ⟨_, rfl, (SliceR.stable (rdLin_stable _) hv10 (by (repeat' (first | (with_reducible exact Keeps.refl _ _) | (with_reducible refine Keeps.set ?_ ?_ _) | (with_reducible refine Keeps.alloc ?_ _) | (with_reducible refine Keeps.drew ?_) | (first | (simp; done)) | (simp; omega)))) (fun b h _ => (by have h' := h; (try simp at h'); omega))), by (repeat' (first | (with_reducible exact Below.refl _ _) | (with_reducible assumption) | (with_reducible refine Below.alloc ?_ ?_ _) | (with_reducible refine Below.drew ?_) | (with_reducible refine drewN_below ?_) | (with_reducible refine Below.setCell ?_ ?_ _) | go_size))⟩
      · have HR2 : Hid (toggleS s t = staysS s (togD s t)) := Lib.hid (HR.out.trans (if_neg hc))
        rw [decide_eq_false hc] at HO
        obtain ⟨X, hX⟩ : ∃ X, staysS s (togD s t) = X := ⟨_, rfl⟩
        rw [hX] at HCh2 HR2
        obtain ⟨p0, f0⟩ := blk k0
        clear HR hfo hc hX k0 k1 k2
        go_enter Tryz.func29, Tryz.ntmps29
        go_wp2_with (go_at_call 93; refine (HT.out _).mono ?_; rintro e w2 ⟨rfl, hst2⟩)
        have hb2 := below_from hw0 hst2
        obtain ⟨w3, hw3⟩ : ∃ w3, w2.alloc (.cells #[.int .i64 1, .int .i64 2, .int .i64 4, .int .i64 8] 82) = w3 := ⟨_, rfl⟩
        rw [hw3]
        have hb23 : Below w2.heap.size w2 w3 := hw3 ▸ below1 (Below.refl _ _) _
        have n3 : w3.heap[w2.heap.size]? = some (.cells #[.int .i64 1, .int .i64 2, .int .i64 4, .int .i64 8] 82) := hw3 ▸ heap_new _ _ rfl
        have hb3 := below_from hb2 hb23
        have HCt : Hid (∀ W, Below w3.heap.size w3 W → Calls Tryz.prog 94 #[.slice (some ⟨w2.heap.size, 0, none⟩) 4 4, .int .i64 t] W fun e w' => e = .returned (.bool (four t)) ∧ Below W.heap.size W w') := Lib.hid fun W hW => by
          have := containsInts_any _ [1, 2, 4, 8] t W (fun _ => True) (slice_blk (enc := encInt) (fun _ => rfl) [1, 2, 4, 8] (heap_below hW n3) trivial (by decide))
          rw [four_any] at this
          exact this.mono fun _ _ ⟨h1, h2⟩ => ⟨h1, h2 ▸ Below.refl _ _⟩
        clear hw3 n3 p0 f0
        rw [HF.out] at HCt
        refine wp_region_grew w3.heap.size (by kernel_rfl) (by kernel_rfl) ?_
        refine BigFrame.wpQuiet_want (by kernel_rfl) (fun K hK => ?_)
        refine quiet_val ?_ (fun W hW => ?_) (hK _ ?_)
        rotate_left 1
        · skip
          obtain ⟨p0, f0⟩ := blk (HB.out _ (below_from hb3 hW)).1
          obtain ⟨p1, f1⟩ := blk (HB.out _ (below_from hb3 hW)).2.1
          go_simp
          try rfl
        clear hK
        clear K
        try simp only [Act.put, List.setIfInBounds_toArray, List.set_cons_zero, List.set_cons_succ]
        refine BigFrame.wpQuiet_want (by kernel_rfl) (fun K hK => ?_)
        refine quiet_calls (f := ?_) (args := ?_) ?_ (fun W hW => ?_) (fun W hW => ?_) (hK _ ?_)
        rotate_left 3
        · go_simp
          constructor <;> rfl
        · refine (HM.out _ (below_from hb3 hW)).mono ?_
          rintro e W2 ⟨rfl, hbW⟩
          refine ⟨?_, below_from hW hbW⟩
          rfl
        clear hK
        clear K
        try simp only [Act.put, List.setIfInBounds_toArray, List.set_cons_zero, List.set_cons_succ]
        refine BigFrame.wpQuiet_want (by kernel_rfl) (fun K hK => ?_)
        refine quiet_val ?_ (fun W hW => ?_) (hK _ ?_)
        rotate_left 1
        · skip
          go_simp
          try rfl
        clear hK
        clear K
        try simp only [Act.put, List.setIfInBounds_toArray, List.set_cons_zero, List.set_cons_succ]
        refine BigFrame.wpQuiet_want (by kernel_rfl) (fun K hK => ?_)
        refine quiet_val ?_ (fun W hW => ?_) (hK _ ?_)
        rotate_left 1
        · skip
          go_simp
          try rfl
        clear hK
        clear K
        try simp only [Act.put, List.setIfInBounds_toArray, List.set_cons_zero, List.set_cons_succ]
        refine BigFrame.wpQuiet_want (by kernel_rfl) (fun K hK => ?_)
        refine quiet_val ?_ (fun W hW => ?_) (hK _ ?_)
        rotate_left 1
        · skip
          go_simp
          try rfl
        clear hK
        clear K
        try simp only [Act.put, List.setIfInBounds_toArray, List.set_cons_zero, List.set_cons_succ]
        refine BigFrame.wpQuiet_want (by kernel_rfl) (fun K hK => ?_)
        refine quiet_val ?_ (fun W hW => ?_) (hK _ ?_)
        rotate_left 1
        · skip
          obtain ⟨p0, f0⟩ := blk (HB.out _ (below_from hb3 hW)).1
          obtain ⟨p1, f1⟩ := blk (HB.out _ (below_from hb3 hW)).2.1
          go_simp
          try rfl
        clear hK
        clear K
        try simp only [Act.put, List.setIfInBounds_toArray, List.set_cons_zero, List.set_cons_succ]
        refine BigFrame.wpQuiet_want (by kernel_rfl) (fun K hK => ?_)
        refine quiet_calls (f := ?_) (args := ?_) ?_ (fun W hW => ?_) (fun W hW => ?_) (hK _ ?_)
        rotate_left 3
        · go_simp
          constructor <;> rfl
        · refine (HCt.out _ hW).mono ?_
          rintro e W2 ⟨rfl, hbW⟩
          refine ⟨?_, below_from hW hbW⟩
          rfl
        clear hK
        clear K
        try simp only [Act.put, List.setIfInBounds_toArray, List.set_cons_zero, List.set_cons_succ]
        refine BigFrame.wpQuiet_want (by kernel_rfl) (fun K hK => ?_)
        refine quiet_val ?_ (fun W hW => ?_) (hK _ ?_)
        rotate_left 1
        · skip
          go_simp
          try rfl
        clear hK
        clear K
        try simp only [Act.put, List.setIfInBounds_toArray, List.set_cons_zero, List.set_cons_succ]
        refine BigFrame.wpQuiet_want (by kernel_rfl) (fun K hK => ?_)
        refine quiet_val ?_ (fun W hW => ?_) (hK _ ?_)
        rotate_left 1
        · skip
          go_simp
          try rfl
        clear hK
        clear K
        try simp only [Act.put, List.setIfInBounds_toArray, List.set_cons_zero, List.set_cons_succ]
        refine BigFrame.wpQuiet_want (by kernel_rfl) (fun K hK => ?_)
        refine quiet_val ?_ (fun W hW => ?_) (hK _ ?_)
        rotate_left 1
        · skip
          go_simp
          try rfl
        clear hK
        clear K
        try simp only [Act.put, List.setIfInBounds_toArray, List.set_cons_zero, List.set_cons_succ]
        refine wpQuiet_nil (fun X6 hstX6 => ?_)
        have hcX6 := below_from hb3 hstX6
        obtain ⟨p0, f0⟩ := blk (HB.out _ hcX6).1
        go_wp2_with (first
          | (go_at_call 75; refine (HO.out _ hcX6).mono ?_; rintro e w7 ⟨rfl, hst7⟩; have hb7 := below_from hcX6 hst7; obtain ⟨q0, g0⟩ := blk (HB.out _ hb7).1)
          | (go_at_call 95; refine (HCh2.out _ hb7).mono ?_; intro e w8 hsaid; obtain ⟨v8, rfl, hv8, hst8⟩ := hsaid; obtain ⟨a8, c8, rfl⟩ := hv8.slice; have hb8 := below_from hb7 hst8; have HV8 := Lib.hid hv8; clear hv8; obtain ⟨q2, g2⟩ := blk (HB.out _ hb8).2.2))
        refine bodyPost_ret (results_st_e rfl _ _ (w.heap.size + 2) (.slice a8 X.1.lines.length c8) (.int .i64 X.1.anc.line) (.int .i64 X.1.anc.col) (.int .i64 X.1.foc.line) (.int .i64 X.1.foc.col) (.int .i64 X.1.on) (.int .i64 X.1.off) (.int .i64 X.2) rfl rfl (by simp [heap_set, putIn, (HB.out _ hb8).2.2])) rfl ?_
        unfold StSaid
        rw [HR2.out]
        have hfin := H1.out.trans (hb8.mono hs1)
        have hv8 := HV8.out
        have hz7 := hb7.size
        exact ⟨_, rfl, (SliceR.stable (rdLin_stable _) hv8 (by (repeat' (first | (with_reducible exact Keeps.refl _ _) | (with_reducible refine Keeps.set ?_ ?_ _) | (with_reducible refine Keeps.alloc ?_ _) | (with_reducible refine Keeps.drew ?_) | (first | fail) | (simp; omega)))) (fun b h _ => (by have h' := h; (try simp at h'); omega))), by (repeat' (first | (with_reducible exact Below.refl _ _) | (with_reducible assumption) | (with_reducible refine Below.alloc ?_ ?_ _) | (with_reducible refine Below.drew ?_) | (with_reducible refine drewN_below ?_) | (with_reducible refine Below.setCell ?_ ?_ _) | go_size))⟩
end Go.Proofs.YtpndnbjpnajaaaaGreatDoor
namespace Go.Proofs.YtpndnbjpnajaaaaGreatDoor
open Go.RowKit
open Go.Proofs.Qw
attribute [local go_sem] Oper.semAt_some
theorem results_doc_e {fn : Func} {p u : Tmp} (h : fn.results = #[.cell p 22, .cell u 34]) (tmps : Array Value) (w : World) (a b : Addr) (x : Value) (y : Int) (hx : ∃ c n k, x = .slice c n k) (hp : tmps.getD p undef = .pointer (some a)) (hu : tmps.getD u undef = .pointer (some b)) (h1 : w.cell? a = some x) (h2 : w.cell? b = some (.int .i64 y)) :
    (results fn tmps).run Tryz.prog w = .ok (.tuple #[x, .int .i64 y]) w := by
  obtain ⟨c, n, k, rfl⟩ := hx
  simp only [results, h]
  simp at hp hu
  simp [go_sem, hp, hu, h1, h2]
def UI (w6 : World) (pre : List Cel) (W : World) : Prop := (∀ c ∈ pre, c.href = []) ∧ Below w6.heap.size w6 W ∧ w6.heap.size ≤ W.heap.size
theorem ui_own (w6 : World) : OwnFrom w6.heap.size (UI w6) := fun s X Y row ⟨h1, h2, h3⟩ hg hr => ⟨h1, ownFrom_below (Nat.le_refl _) (Nat.le_refl _) s X Y row h2 hg hr, ownFrom_size _ _ s X Y row h3 hg hr⟩
def UX (R : Doc × Int) (w : World) (Z : Nat) (c : Code) (pre : List Cel) (W : World) : Prop :=
  c = .ret ∧ (∃ z ∈ pre, z.href ≠ []) ∧ ∃ v, W.heap[w.heap.size + 3]? = some (.cells #[v] 22) ∧ W.heap[w.heap.size + 4]? = some (.cells #[.int .i64 R.2] 34) ∧ DocR true W (fun b => Z ≤ b) v R.1 ∧ Below w.heap.size w W
theorem ux_own {R : Doc × Int} {w : World} {Z B : Nat} (hB : w.heap.size ≤ B) (c : Code) : OwnFrom B (UX R w Z c) := fun s X Y row ⟨h0, h1, v, h2, h3, h4, h5⟩ hg hr =>
  ⟨h0, h1, v, blk_own B _ _ _ s X Y row h2 hg hr, blk_own B _ _ _ s X Y row h3 hg hr, doc_own (β := Unit) B _ _ (fun _ => R.1) () X Y row h4 hg hr, ownFrom_below (Nat.le_refl _) hB s X Y row h5 hg hr⟩
set_option maxRecDepth 200000 in
set_option maxHeartbeats 4000000 in
theorem styUnlink1_any (Bs : Nat) (v : Value) (s : St) (P Q : Ps) (w : World) (S : Nat → Prop) (h : LinsR w S v s.lines) (he : EnvT w) (hs : Small s.lines) (hf : Fits s.lines) (hm : isD s.lines s.anc = true) (hBs : w.heap[Bs]? = some (.cells #[v, .int .i64 s.anc.line, .int .i64 s.anc.col, .int .i64 s.foc.line, .int .i64 s.foc.col, .int .i64 s.on, .int .i64 s.off] 26)) :
    Calls Tryz.prog 107 #[v, posV P, posV Q, .pointer (some ⟨Bs, 0, none⟩)] w (DocSaid (unlinkL s) w) := by
  obtain ⟨W1, hW1⟩ : ∃ W1, ((((w.alloc (.cells #[v] 22)).alloc (.cells #[.int .i64 P.line, .int .i64 P.col] 24)).alloc (.cells #[.int .i64 Q.line, .int .i64 Q.col] 24)).alloc (.cells #[.slice none 0 0] 22)).alloc (.cells #[.int .i64 0] 34) = W1 := ⟨_, rfl⟩
  have hB : Below w.heap.size w W1 := hW1 ▸ below2 (below3 (Below.refl _ _) _ _ _) _ _
  have hz : w.heap.size + 5 = W1.heap.size := by rw [← hW1]; simp
  have k0 : W1.heap[w.heap.size]? = some (.cells #[v] 22) := hW1 ▸ heap_old _ _ (heap_old _ _ (heap_old _ _ (heap_old _ _ (heap_new _ _ rfl))))
  have k1 : W1.heap[w.heap.size + 1]? = some (.cells #[.int .i64 P.line, .int .i64 P.col] 24) := hW1 ▸ heap_old _ _ (heap_old _ _ (heap_old _ _ (heap_new _ _ (by simp))))
  have k3 : W1.heap[w.heap.size + 3]? = some (.cells #[.slice none 0 0] 22) := hW1 ▸ heap_old _ _ (heap_new _ _ (by simp))
  have k4 : W1.heap[w.heap.size + 4]? = some (.cells #[.int .i64 0] 34) := hW1 ▸ heap_new _ _ (by simp)
  have kS := heap_below hB hBs
  have HB : Hid (∀ W, Below W1.heap.size W1 W → W.heap[Bs]? = some (.cells #[v, .int .i64 s.anc.line, .int .i64 s.anc.col, .int .i64 s.foc.line, .int .i64 s.foc.col, .int .i64 s.on, .int .i64 s.off] 26) ∧ W.heap[w.heap.size]? = some (.cells #[v] 22) ∧ W.heap[w.heap.size + 1]? = some (.cells #[.int .i64 P.line, .int .i64 P.col] 24) ∧ W.heap[w.heap.size + 3]? = some (.cells #[.slice none 0 0] 22) ∧ W.heap[w.heap.size + 4]? = some (.cells #[.int .i64 0] 34)) := Lib.hid fun W hW => ⟨heap_below hW kS, heap_below hW k0, heap_below hW k1, heap_below hW k3, heap_below hW k4⟩
  have hs1 := hB.size
  have hBw := (Array.getElem?_eq_some_iff.1 hBs).1
  have H1 := Lib.hid hB
  have hw0 : Below W1.heap.size W1 W1 := Below.refl _ _
  have HV : Hid (∀ W, Below W1.heap.size W1 W → LinsR W S v s.lines) := Lib.hid fun W hW => h.below (rdLin_stable _) (hB.trans (hW.mono hs1))
  have HE : Hid (∀ W, Below W1.heap.size W1 W → EnvT W) := Lib.hid fun W hW => (he.below hB).below hW
  have HR : Hid (unlinkL s = if (cellsD s.lines (handS s).1 (handS s).2).any (fun c => decide (c.href ≠ [])) = true then linkD [] s.lines (handS s).1 (handS s).2 else ([], 7)) := Lib.hid rfl
  have HVF := Lib.hid (And.intro hs hf)
  have HVw := Lib.hid (And.intro h he)
  have HH : Hid (∀ W, Below W1.heap.size W1 W → Calls Tryz.prog 84 #[stV v s] W fun e w' => e = .returned (.tuple #[.agg #[.int .i64 (handS s).1.line, .int .i64 (handS s).1.col], .agg #[.int .i64 (handS s).2.line, .int .i64 (handS s).2.col]]) ∧ Below W.heap.size W w') := Lib.hid fun W hW => styHand_any v s W S (HV.out W hW) hf hm
  obtain ⟨A, B, hAB⟩ : ∃ A B, handS s = (A, B) := ⟨_, _, rfl⟩
  rw [hAB] at HH HR
  simp only at HH HR
  have HLk : Hid (∀ W, Below W1.heap.size W1 W → Calls Tryz.prog 100 #[v, posV A, posV B, .string ⟨#[]⟩] W (DocSaid (linkD [] s.lines A B) W)) := Lib.hid fun W hW => docLink_any v s.lines A B [] W S (HV.out W hW) (HE.out W hW) hs hf (by simp)
  have HP : Hid (∀ p : Ps, posV p = .agg #[.int .i64 p.line, .int .i64 p.col]) := Lib.hid fun _ => rfl
  rw [HP.out, HP.out] at HLk ⊢
  have HL : Hid ((cellsD s.lines A B).length ≤ 100000) := Lib.hid (Nat.le_trans (cellsD_size _ _ _) hs.1)
  obtain ⟨X, er, hX⟩ : ∃ X er, linkD [] s.lines A B = (X, er) := ⟨_, _, rfl⟩
  rw [hX] at HLk HR
  obtain ⟨p0, f0⟩ := blk k0
  obtain ⟨p1, f1⟩ := blk k3
  obtain ⟨p2, f2⟩ := blk k4
  obtain ⟨p3, f3⟩ := blk kS
  obtain ⟨va, vc, rfl⟩ := h.slice
  clear h he hs hf hm hAB hX k0 k1 k3 k4 kS hBs hB
  refine (callsIn_wide (n := 6)).1 ?_
  refine callsIn_of_wp_marks Tryz.func107 rfl trivial ?_ rfl
  simp only [Tryz.ntmps107, List.size_toArray, List.length_cons, List.length_nil, Nat.reduceAdd, Nat.reduceSub, Array.replicate_succ, Array.replicate_zero, List.push_toArray, List.append_toArray, List.nil_append, List.cons_append]
  have hwf : ∀ f, Fence.wide.fn f := fun _ => trivial
  have hwd : Fence.wide.depth = none := rfl
  gi_wp2_with (first
    | (gi_at_call 84; refine (callsIn_wide.2 (HH.out _ hw0)).mono ?_; rintro e w2 ⟨rfl, hst2⟩; have hb2 := below_from hw0 hst2; obtain ⟨q0, g0⟩ := blk (HB.out _ hb2).2.1; have hz2 := hb2.size; have r0 := on2 (HB.out _ hb2).2.1)
    | (gi_at_call 77; refine (callsIn_wide.2 (selected_any _ _ _ A B _)).mono ?_; rintro e w5 ⟨rfl, rfl⟩))
  obtain ⟨w6, hw6⟩ : ∃ w6, ((((w2.alloc (.cells #[.int .i64 A.line, .int .i64 A.col] 24)).alloc (.cells #[.int .i64 B.line, .int .i64 B.col] 24)).alloc (.cells #[.slice va s.lines.length vc] 22)).alloc (.cells #[.int .i64 A.line, .int .i64 A.col] 24)).alloc (.cells #[.int .i64 B.line, .int .i64 B.col] 24) = w6 := ⟨_, rfl⟩
  rw [hw6]
  have hb26 : Below w2.heap.size w2 w6 := hw6 ▸ below3 (below2 (Below.refl _ _) _ _) _ _ _
  have hz6 : w6.heap.size = w2.heap.size + 5 := by rw [← hw6]; simp
  have m0 : w6.heap[w2.heap.size]? = some (.cells #[.int .i64 A.line, .int .i64 A.col] 24) := hw6 ▸ heap_old _ _ (heap_old _ _ (heap_old _ _ (heap_old _ _ (heap_new _ _ rfl))))
  have m1 : w6.heap[w2.heap.size + 1]? = some (.cells #[.int .i64 B.line, .int .i64 B.col] 24) := hw6 ▸ heap_old _ _ (heap_old _ _ (heap_old _ _ (heap_new _ _ (by simp))))
  have m2 : w6.heap[w2.heap.size + 1 + 1]? = some (.cells #[.slice va s.lines.length vc] 22) := hw6 ▸ heap_old _ _ (heap_old _ _ (heap_new _ _ (by simp)))
  have m3 : w6.heap[w2.heap.size + 1 + 1 + 1]? = some (.cells #[.int .i64 A.line, .int .i64 A.col] 24) := hw6 ▸ heap_old _ _ (heap_new _ _ (by simp))
  have m4 : w6.heap[w2.heap.size + 1 + 1 + 2]? = some (.cells #[.int .i64 B.line, .int .i64 B.col] 24) := hw6 ▸ heap_new _ _ (by simp)
  have hb6 := below_from hb2 hb26
  have hbw : Below w.heap.size w w6 := H1.out.trans (hb6.mono hs1)
  have N0 := Lib.hid (And.intro m0 (And.intro m1 (And.intro m2 (And.intro m3 m4))))
  have hUI : UI w6 [] w6 := ⟨fun _ h => (by cases h), Below.refl _ _, Nat.le_refl _⟩
  clear hw6 m0 m1 m2 m3 m4 q0 g0 r0 p0 f0 p1 f1 p2 f2 p3 f3 hW1
  refine rangeFunc_boxD rfl (by omega) (gf := 148) (lb := #[.pointer (some ⟨w2.heap.size + 1 + 1, 0, none⟩), .pointer (some ⟨w2.heap.size + 1 + 1 + 1, 0, none⟩), .pointer (some ⟨w2.heap.size + 1 + 1 + 2, 0, none⟩)]) rfl trivial (enters_of Tryz.func148 (by kernel_rfl) rfl)
    (encs := fun c : Cel => #[celV c]) (n₀ := w.heap.size) (base := w6.heap.size) (Bs := w.heap.size + 1) (S := fun ys => ys = cellsD s.lines A B) (Sp := fun pre => pre <+: cellsD s.lines A B) (N := 200000) (w0 := w6) ?seq (by omega) (by omega) (Below.refl _ _) (fun _ => rfl)
    (UI w6) (UX (X, er) w w2.heap.size) (ui_own w6) (ux_own (by omega)) hUI (fun _ _ h => h.2.2)
    (fun x => #[.int .i32 x.r, .int .i64 x.bits, .string ⟨x.href.toArray⟩]) 44 ?act ?assign ?body ?done ?stop
  case seq =>
    intro l J Jx W hW hJ _ hY h0
    have hzW := hW.size
    have hb1 := below_from hb6 hW
    exact selected1_in 5 l (w2.heap.size + 1 + 1) (w2.heap.size + 1 + 1 + 1) (w2.heap.size + 1 + 1 + 2) w6.heap.size (w.heap.size + 1) (.slice va s.lines.length vc) s.lines A B S J Jx w W HVw.out.1 HVw.out.2 HVF.out.1 HVF.out.2 (hbw.trans (hW.mono hbw.size)) hW.size (heap_below hW N0.out.2.2.1) (heap_below hW N0.out.2.2.2.1) (heap_below hW N0.out.2.2.2.2) (by omega)
      (by unfold ownAt; rw [cell_of_heap (HB.out W hb1).2.2.1]; rfl) hJ hY h0
  case assign =>
    intro l pre x W K Bx hBx hI hK
    unfold celV
    gi_wp2
    rw [← hBx]
    exact hK
  case body =>
    intro l pre x Bx W hI hBx hbx hlt
    obtain ⟨hal, hb, hzW⟩ := hI
    have hbW := below_from hb6 hb
    obtain ⟨sx, sxf⟩ := blk hbx
    obtain ⟨s0, s0f⟩ := blk (HB.out _ hbW).2.1
    obtain ⟨s1, s1f⟩ := blk (heap_below hb N0.out.1)
    obtain ⟨s2, s2f⟩ := blk (heap_below hb N0.out.2.1)
    have HA := Lib.hid (And.intro hal (And.intro hb (And.intro hzW hbW)))
    clear hal hb
    by_cases hx : x.href = []
    · have HX := Lib.hid hx
      have hq : x.href.isEmpty = true := by simpa using hx
      clear hx
      gi_wp2_with fail
      exact ⟨KeepsFrom.refl _ _, Kd.of_below (by have := hbw.size; omega) (by omega) (Below.refl _ _), fun c hc => (by rcases List.mem_append.1 hc with h | h; exact HA.out.1 c h; rw [List.mem_singleton.1 h]; exact HX.out), HA.out.2.1, HA.out.2.2.1⟩
    · have HX := Lib.hid hx
      have hq : x.href.isEmpty = false := by simpa using hx
      clear hx
      gi_wp2_with (gi_at_call 100; refine (callsIn_wide.2 (HLk.out _ HA.out.2.2.2)).mono ?_; intro e w7 hsaid; obtain ⟨v7, rfl, hv7, hb7⟩ := hsaid; obtain ⟨a7, c7, rfl⟩ := hv7.slice; have HV7 := Lib.hid hv7; clear hv7; have hx7 := below_from HA.out.2.2.2 hb7; obtain ⟨t3, t3f⟩ := blk (HB.out _ hx7).2.2.2.1; obtain ⟨t4, t4f⟩ := blk (HB.out _ hx7).2.2.2.2)
      refine ⟨((keeps_below hb7).from _).trans (((KeepsOthers.setCell _ _ _).trans (KeepsOthers.setCell _ _ _)).from _), rfl, ⟨x, by simp, HX.out⟩, .slice a7 X.length c7, ?_, ?_, ?_, ?_⟩
      · rw [heap_set, if_neg (by simp), heap_set, if_pos rfl, (HB.out _ hx7).2.2.2.1]; rfl
      · rw [heap_set, if_pos rfl, heap_set, if_neg (by simp), (HB.out _ hx7).2.2.2.2]; rfl
      · have hv7 := HV7.out
        have hw7 := hb7.size
        exact (SliceR.stable (rdLin_stable _) hv7 (by (repeat' (first | (with_reducible exact Keeps.refl _ _) | (with_reducible refine Keeps.set ?_ ?_ _) | (with_reducible refine Keeps.alloc ?_ _) | (with_reducible refine Keeps.drew ?_) | (first | fail) | (simp; omega)))) (fun b h _ => (by have h' := h; (try simp at h'); omega)))
      · exact ((H1.out.trans (hx7.mono hs1)).setCell (by show w.heap.size ≤ w.heap.size + 3; omega) _).setCell (by show w.heap.size ≤ w.heap.size + 4; omega) _
  case done =>
    rintro D ys W hD hys ⟨hal, hb, hzW⟩ hK
    subst hys
    have hbW := below_from hb6 hb
    obtain ⟨t3, t3f⟩ := blk (HB.out _ hbW).2.2.2.1
    obtain ⟨t4, t4f⟩ := blk (HB.out _ hbW).2.2.2.2
    have HR : Hid (unlinkL s = ([], 7)) := Lib.hid (HR.out.trans (if_neg (by
      rw [List.any_eq_true]
      rintro ⟨c, hc, hc2⟩
      exact absurd (hal c hc) (by simpa using hc2))))
    have HB9 := Lib.hid hbW
    have HK9 := Lib.hid hK
    clear hal hb hK
    gi_wp2_with fail
    have r1 : ((W.setCell ⟨w.heap.size + 1 + 1 + 1, 0, none⟩ (.slice none 0 0)).setCell ⟨w.heap.size + 1 + 1 + 1 + 1, 0, none⟩ (.int .i64 7)).cell? ⟨w.heap.size + 1 + 1 + 1, 0, none⟩ = some (.slice none 0 0) := (setCell_block (by omega)).trans (setCell_same (t3 0))
    have r2 : ((W.setCell ⟨w.heap.size + 1 + 1 + 1, 0, none⟩ (.slice none 0 0)).setCell ⟨w.heap.size + 1 + 1 + 1 + 1, 0, none⟩ (.int .i64 7)).cell? ⟨w.heap.size + 1 + 1 + 1 + 1, 0, none⟩ = some (.int .i64 7) := setCell_same ((setCell_block (by omega)).trans (t4 0))
    have hK2 : ((W.setCell ⟨w.heap.size + 1 + 1 + 1, 0, none⟩ (.slice none 0 0)).setCell ⟨w.heap.size + 1 + 1 + 1 + 1, 0, none⟩ (.int .i64 7)).heap[D]? = some (.deferred (some [])) := by rw [heap_set, if_neg (by show ¬ w.heap.size + 1 + 1 + 1 + 1 = D; omega), heap_set, if_neg (by show ¬ w.heap.size + 1 + 1 + 1 = D; omega)]; exact HK9.out
    have hbE : Below w.heap.size w ((W.setCell ⟨w.heap.size + 1 + 1 + 1, 0, none⟩ (.slice none 0 0)).setCell ⟨w.heap.size + 1 + 1 + 1 + 1, 0, none⟩ (.int .i64 7)) := ((H1.out.trans (HB9.out.mono hs1)).setCell (by show w.heap.size ≤ w.heap.size + 1 + 1 + 1; omega) _).setCell (by show w.heap.size ≤ w.heap.size + 1 + 1 + 1 + 1; omega) _
    refine ⟨by simp, .inl ⟨_, _, rfl, run_takeDeferred hK2, ?_⟩⟩
    refine ⟨_, results_doc_e rfl _ _ ⟨w.heap.size + 1 + 1 + 1, 0, none⟩ ⟨w.heap.size + 1 + 1 + 1 + 1, 0, none⟩ (.slice none 0 0) 7 ⟨_, _, _, rfl⟩ rfl rfl ((World.cell?_of_block (World.putObj_heap_other (by simp; omega))).trans r1) ((World.cell?_of_block (World.putObj_heap_other (by simp; omega))).trans r2), ?_⟩
    unfold DocSaid
    rw [HR.out]
    exact ⟨_, rfl, SliceR.nil _ _ _ _ _ _, hbE.trans (belowK_b (w := w) (Nat.le_refl _) _ D _ _ (by omega) hK2 rfl rfl)⟩
  case stop =>
    rintro D c pre W hD hpre ⟨rfl, ⟨z, hz1, hz2⟩, v9, h3, h4, h5, h6⟩ hK
    have HR : Hid (unlinkL s = (X, er)) := Lib.hid (HR.out.trans (if_pos (by
      rw [List.any_eq_true]
      exact ⟨z, hpre.subset hz1, by simpa using hz2⟩)))
    obtain ⟨t3, t3f⟩ := blk h3
    obtain ⟨t4, t4f⟩ := blk h4
    obtain ⟨a9, c9, rfl⟩ := h5.slice
    have HV9 := Lib.hid h5
    have HB9 := Lib.hid h6
    have HK9 := Lib.hid hK
    clear h3 h4 h5 h6 hK hpre hz1 hz2
    gi_wp2_with fail
    refine ⟨by simp, .inl ⟨_, _, rfl, run_takeDeferred HK9.out, ?_⟩⟩
    refine ⟨_, results_doc_e rfl _ _ ⟨w.heap.size + 1 + 1 + 1, 0, none⟩ ⟨w.heap.size + 1 + 1 + 1 + 1, 0, none⟩ (.slice a9 X.length c9) er ⟨_, _, _, rfl⟩ rfl rfl ((World.cell?_of_block (World.putObj_heap_other (by simp; omega))).trans (t3 0)) ((World.cell?_of_block (World.putObj_heap_other (by simp; omega))).trans (t4 0)), ?_⟩
    unfold DocSaid
    rw [HR.out]
    exact ⟨_, rfl, SliceR.stable (rdLin_stable true) ((doc_own (β := Unit) D _ _ (fun _ => X)).putObj (s := ()) _ HV9.out (Nat.le_refl _) HK9.out rfl) (Keeps.refl _ _) (fun b h _ => Nat.le_trans (by omega) h), HB9.out.trans (belowK_b (w := w) (Nat.le_refl _) W D _ _ (by omega) HK9.out rfl rfl)⟩
set_option maxRecDepth 100000 in
set_option maxHeartbeats 2000000 in
theorem styUnlink_any (v : Value) (s : St) (w : World) (S : Nat → Prop) (h : LinsR w S v s.lines) (he : EnvT w) (hs : Small s.lines) (hf : Fits s.lines) :
    Calls Tryz.prog 37 #[stV v s] w (StSaid (changedS s (unlinkL s)) w) := by
  obtain ⟨W1, hW1, hB, hz, k0, k2⟩ := st_two w v s
  have HB : Hid (∀ W, Below W1.heap.size W1 W → W.heap[w.heap.size]? = some (.cells #[v, .int .i64 s.anc.line, .int .i64 s.anc.col, .int .i64 s.foc.line, .int .i64 s.foc.col, .int .i64 s.on, .int .i64 s.off] 26) ∧ W.heap[w.heap.size + 1]? = some (.cells #[.slice none 0 0, .int .i64 0, .int .i64 0, .int .i64 0, .int .i64 0, .int .i64 0, .int .i64 0] 26)) := Lib.hid fun W hW => ⟨heap_below hW k0, heap_below hW k2⟩
  have hs1 := hB.size
  have H1 := Lib.hid hB
  have HC := Lib.hid (styChanged_any v s 107 #[.pointer (some ⟨w.heap.size, 0, none⟩)] (unlinkL s) W1 S (h.below (rdLin_stable _) hB) (he.below hB) hs (enters_of Tryz.func107 (by kernel_rfl) rfl)
    (fun hm W hW => styUnlink1_any w.heap.size v s (spanS s).1 (spanS s).2 W S (h.below (rdLin_stable _) (hB.trans (hW.mono hs1))) ((he.below hB).below hW) hs hf (mayS_at hm).2.1 (heap_below hW k0)))
  obtain ⟨X, hX⟩ : ∃ X, changedS s (unlinkL s) = X := ⟨_, rfl⟩
  rw [hX] at HC ⊢
  obtain ⟨p0, f0⟩ := blk k0
  obtain ⟨p2, f2⟩ := blk k2
  obtain ⟨va, vc, rfl⟩ := h.slice
  clear h he hs hf hX k0 k2 hB
  go_enter Tryz.func37, Tryz.ntmps37
  go_wp2_with (go_at_call 95; refine HC.out.mono ?_; intro e w2 hsaid; obtain ⟨v2, rfl, hv2, hb2⟩ := hsaid; obtain ⟨a2, c2, rfl⟩ := hv2.slice; have HV2 := Lib.hid hv2; clear hv2; obtain ⟨q2, g2⟩ := blk (HB.out _ hb2).2)
  refine bodyPost_ret (results_st_e rfl _ _ (w.heap.size + 1) (.slice a2 X.1.lines.length c2) (.int .i64 X.1.anc.line) (.int .i64 X.1.anc.col) (.int .i64 X.1.foc.line) (.int .i64 X.1.foc.col) (.int .i64 X.1.on) (.int .i64 X.1.off) (.int .i64 X.2) rfl rfl (by simp [heap_set, putIn, (HB.out _ hb2).2])) rfl ?_
  have hfin := H1.out.trans (hb2.mono hs1)
  have hv2 := HV2.out
  exact ⟨_, rfl, (SliceR.stable (rdLin_stable _) hv2 (by (repeat' (first | (with_reducible exact Keeps.refl _ _) | (with_reducible refine Keeps.set ?_ ?_ _) | (with_reducible refine Keeps.alloc ?_ _) | (with_reducible refine Keeps.drew ?_) | (first | fail) | (simp; omega)))) (fun b h _ => (by have h' := h; (try simp at h'); omega))), by (repeat' (first | (with_reducible exact Below.refl _ _) | (with_reducible assumption) | (with_reducible refine Below.alloc ?_ ?_ _) | (with_reducible refine Below.drew ?_) | (with_reducible refine drewN_below ?_) | (with_reducible refine Below.setCell ?_ ?_ _) | go_size))⟩
end Go.Proofs.YtpndnbjpnajaaaaGreatDoor
namespace Go.Proofs.YtpndnbjpnajaaaaGreatDoor
open Go.RowKit
open Go.Proofs.Qw
attribute [local go_sem] Oper.semAt_some
theorem refPlaceC_any (v : Value) (l : List Cel) (k : Nat) (w : World) (S : Nat → Prop) (own : Bool) (h : CelsR own w S v l) (hk : k ≤ l.length) :
    Calls Tryz.prog 149 #[v, .int .i64 k] w fun e w' => e = .returned (.int .i64 k) ∧ w' = w := by
  obtain ⟨a, c, rfl⟩ := h.slice
  clear h
  have h0 : (0 : Int) ≤ k := Int.natCast_nonneg _
  have h1 : (k : Int) ≤ l.length := by omega
  generalize l.length = n at *
  go_enter Tryz.func149, Tryz.ntmps149
  go_wp2_with fail
  go_ret
  exact ⟨rfl, rfl⟩
set_option maxRecDepth 100000 in
set_option maxHeartbeats 4000000 in
theorem refAround_any (v : Value) (l : List Cel) (k : Nat) (w : World) (S : Nat → Prop) (h : CelsR false w S v l) (hk : k ≤ l.length) :
    Calls Tryz.prog 78 #[v, .int .i64 k] w fun e w' => e = .returned (.tuple #[.int .i64 (aroundF l k).1, .string ⟨(aroundF l k).2.toArray⟩]) ∧ Below w.heap.size w w' := by
  have HP := Lib.hid (refPlaceC_any v l k w S false h hk)
  obtain ⟨a, c, rfl, hc, hm, hx⟩ := cels_shape h
  unfold maxLen at hm
  have HX := Lib.hid hx
  clear hx h
  cases k with
  | zero =>
    by_cases hn : 0 < l.length
    · obtain ⟨x, hx0, _⟩ := getOf l 0 hn
      obtain ⟨b, o, rfl, hz, c0, c1, c2⟩ := HX.out 0 x hx0
      have HR : Hid (aroundF l 0 = (x.bits, [])) := Lib.hid (by
        unfold aroundF
        rw [if_neg (by omega), if_pos hn, if_neg (by omega), List.getD, hx0]
        rfl)
      rw [show ((0 : Nat) : Int) = 0 from rfl] at HP ⊢
      have hn' : (0 : Int) < l.length := by omega
      rw [Nat.zero_mul, Nat.add_zero] at c1
      clear hx0 c0 c2 hz
      go_enter Tryz.func78, Tryz.ntmps78
      go_wp2_with (go_at_call 149; refine HP.out.mono ?_; rintro e w1 ⟨rfl, rfl⟩)
      go_quiet (fail)
      go_wp2_with fail
      go_ret2
      rw [HR.out]
      exact ⟨rfl, by (repeat' (first | (with_reducible exact Below.refl _ _) | (with_reducible assumption) | (with_reducible refine Below.alloc ?_ ?_ _) | (with_reducible refine Below.drew ?_) | (with_reducible refine drewN_below ?_) | (with_reducible refine Below.setCell ?_ ?_ _) | go_size))⟩
    · obtain rfl : l = [] := List.length_eq_zero_iff.1 (by omega)
      have HR : Hid (aroundF [] 0 = (0, [])) := Lib.hid rfl
      rw [show ((0 : Nat) : Int) = 0 from rfl] at HP ⊢
      rw [show ([] : List Cel).length = 0 from rfl] at HP hc ⊢
      clear hn hk HX
      go_enter Tryz.func78, Tryz.ntmps78
      go_wp2_with (go_at_call 149; refine HP.out.mono ?_; rintro e w1 ⟨rfl, rfl⟩)
      go_quiet (fail)
      go_wp2_with fail
      go_ret2
      rw [HR.out]
      exact ⟨rfl, by (repeat' (first | (with_reducible exact Below.refl _ _) | (with_reducible assumption) | (with_reducible refine Below.alloc ?_ ?_ _) | (with_reducible refine Below.drew ?_) | (with_reducible refine drewN_below ?_) | (with_reducible refine Below.setCell ?_ ?_ _) | go_size))⟩
  | succ j =>
    obtain ⟨x, hx0, _⟩ := getOf l j (by omega)
    obtain ⟨b, o, rfl, hz, c0, c1, c2⟩ := HX.out j x hx0
    have j0 : (0 : Int) ≤ (j : Int) := Int.natCast_nonneg _
    have j1 : (j : Int) < l.length := by omega
    have j2 : ((j : Int) + 1).toNat = j + 1 := by omega
    by_cases hn : j + 1 < l.length
    · obtain ⟨y, hy0, _⟩ := getOf l (j + 1) hn
      obtain ⟨b', o', hbe, hz', d0, d1, d2⟩ := HX.out (j + 1) y hy0
      cases hbe
      have hlt : decide ((j : Int) + 1 < l.length) = true := decide_eq_true (by omega)
      have HR : Hid (aroundF l (j + 1) = (x.bits, if x.href = y.href then y.href else [])) := Lib.hid (by
        simp only [aroundF, List.getD, Nat.add_sub_cancel, hx0, hy0, Option.getD_some, Nat.zero_lt_succ, if_true, hn, true_and]
        by_cases e : x.href = y.href <;> simp [e])
      clear hx0 hy0 c0 hz hz' d0 d1
      by_cases e : x.href = y.href
      all_goals
        have HR := Lib.hid HR.out
        first
          | (rw [if_pos e] at HR; have hq : (x.href == y.href) = true := by simpa using e)
          | (rw [if_neg e] at HR; have hq : (x.href == y.href) = false := by simpa using e)
        clear e
        go_enter Tryz.func78, Tryz.ntmps78
        go_wp2_with (go_at_call 149; refine HP.out.mono ?_; rintro e w1 ⟨rfl, rfl⟩)
        go_quiet (fail)
        go_wp2_with fail
        go_ret2
        rw [HR.out]
        exact ⟨rfl, by (repeat' (first | (with_reducible exact Below.refl _ _) | (with_reducible assumption) | (with_reducible refine Below.alloc ?_ ?_ _) | (with_reducible refine Below.drew ?_) | (with_reducible refine drewN_below ?_) | (with_reducible refine Below.setCell ?_ ?_ _) | go_size))⟩
    · have hlt : decide ((j : Int) + 1 < l.length) = false := decide_eq_false (by omega)
      have HR : Hid (aroundF l (j + 1) = (x.bits, [])) := Lib.hid (by
        simp only [aroundF, List.getD, Nat.add_sub_cancel, hx0, Option.getD_some, Nat.zero_lt_succ, if_true, hn, false_and, and_false, if_false])
      clear hx0 c0 c2 hz
      go_enter Tryz.func78, Tryz.ntmps78
      go_wp2_with (go_at_call 149; refine HP.out.mono ?_; rintro e w1 ⟨rfl, rfl⟩)
      go_quiet (fail)
      go_wp2_with fail
      go_ret2
      rw [HR.out]
      exact ⟨rfl, by (repeat' (first | (with_reducible exact Below.refl _ _) | (with_reducible assumption) | (with_reducible refine Below.alloc ?_ ?_ _) | (with_reducible refine Below.drew ?_) | (with_reducible refine drewN_below ?_) | (with_reducible refine Below.setCell ?_ ?_ _) | go_size))⟩
set_option maxRecDepth 100000 in
set_option maxHeartbeats 8000000 in
theorem refWithin_any (v : Value) (l : List Cel) (k : Nat) (w : World) (S : Nat → Prop) (h : CelsR false w S v l) (hk : k ≤ l.length) (_hl : l.length ≤ 1000000) :
    Calls Tryz.prog 156 #[v, .int .i64 k] w fun e w' => e = .returned (.tuple #[.int .i64 (withinF l k).1, .int .i64 (withinF l k).2]) ∧ Below w.heap.size w w' := by
  have HP := Lib.hid (refPlaceC_any v l k w S false h hk)
  obtain ⟨a, c, rfl, hc, hm, hx⟩ := cels_shape h
  unfold maxLen at hm
  have HX := Lib.hid hx
  clear hx h
  have hw0 : Below w.heap.size w w := Below.refl _ _
  obtain ⟨H, hH⟩ : ∃ H, handF l k = H := ⟨_, rfl⟩
  have HR : Hid (withinF l k = if H = [] then (k, k) else (backF l H k, forthF l H k)) := Lib.hid (by unfold withinF; rw [hH])
  obtain ⟨B, hB⟩ : ∃ B, decide (0 < k ∧ (l.getD (k - 1) default).href ≠ []) = B := ⟨_, rfl⟩
  have hcase : (B = true ∧ ∃ j x, k = j + 1 ∧ l[j]? = some x ∧ x.href.isEmpty = false ∧ H = x.href) ∨ (B = false ∧ (k = 0 ∨ ∃ j x, k = j + 1 ∧ l[j]? = some x ∧ x.href.isEmpty = true) ∧ ((l.length ≤ k ∧ H = []) ∨ ∃ y, l[k]? = some y ∧ H = y.href)) := by
    rw [← hH, ← hB]
    have hlast : ∀ h : List UInt8, h = (if k < l.length then (l.getD k default).href else []) → ((l.length ≤ k ∧ h = []) ∨ ∃ y, l[k]? = some y ∧ h = y.href) := by
      intro h hh
      by_cases hn : k < l.length
      · obtain ⟨y, hy, _⟩ := getOf l k hn
        exact .inr ⟨y, hy, by rw [hh, if_pos hn, List.getD, hy]; rfl⟩
      · exact .inl ⟨by omega, by rw [hh, if_neg hn]⟩
    unfold handF
    by_cases e : 0 < k ∧ (l.getD (k - 1) default).href ≠ []
    · rw [if_pos e, decide_eq_true e]
      refine .inl ⟨rfl, ?_⟩
      obtain ⟨e1, e2⟩ := e
      cases k with
      | zero => omega
      | succ j =>
        obtain ⟨x, hx, _⟩ := getOf l j (by omega)
        simp only [Nat.add_sub_cancel, List.getD, hx, Option.getD_some] at e2 ⊢
        exact ⟨j, x, rfl, hx, by simpa using e2, rfl⟩
    · rw [if_neg e, decide_eq_false e]
      refine .inr ⟨rfl, ?_, hlast _ rfl⟩
      cases k with
      | zero => exact .inl rfl
      | succ j =>
        obtain ⟨x, hx, _⟩ := getOf l j (by omega)
        simp only [Nat.add_sub_cancel, List.getD, hx, Option.getD_some, Nat.zero_lt_succ, true_and, ne_eq, Decidable.not_not] at e
        exact .inr ⟨j, x, rfl, hx, by simpa using e⟩
  have HC := Lib.hid hcase
  clear hcase hH hB
  go_enter Tryz.func156, Tryz.ntmps156
  go_upto_region 3 with (go_at_call 149; refine HP.out.mono ?_; rintro e w1 ⟨rfl, rfl⟩)
  go_cut [22] from 12 to 22 (fun r wx => r = .bool B ∧ wx = w1)
  case first =>
    rcases HC.out with ⟨rfl, j, x, rfl, hx, hq, _⟩ | ⟨rfl, rfl | ⟨j, x, rfl, hx, hq⟩, _⟩
    · obtain ⟨b, o, rfl, hz, c0, c1, c2⟩ := HX.out j x hx
      have j0 : (0 : Int) ≤ (j : Int) := Int.natCast_nonneg _
      have j1 : (j : Int) < l.length := by omega
      clear hx c0 c1
      go_wp2_with fail
      go_meet
      case rel => exact ⟨rfl, rfl⟩
    · go_wp2_with fail
      go_meet
      case rel => exact ⟨rfl, rfl⟩
    · obtain ⟨b, o, rfl, hz, c0, c1, c2⟩ := HX.out j x hx
      have j0 : (0 : Int) ≤ (j : Int) := Int.natCast_nonneg _
      have j1 : (j : Int) < l.length := by omega
      clear hx c0 c1
      go_wp2_with fail
      go_meet
      case rel => exact ⟨rfl, rfl⟩
  case rest =>
  obtain ⟨rfl, rfl⟩ := hcut
  go_upto_if 22 with fail
  go_cut [6] from 23 (fun r wx => r = .string ⟨H.toArray⟩ ∧ wx = wc)
  case first =>
    rcases HC.out with ⟨rfl, j, x, rfl, hx, hq, rfl⟩ | ⟨rfl, _, ⟨hn, rfl⟩ | ⟨y, hy, rfl⟩⟩
    · obtain ⟨b, o, rfl, hz, c0, c1, c2⟩ := HX.out j x hx
      have j0 : (0 : Int) ≤ (j : Int) := Int.natCast_nonneg _
      have j1 : (j : Int) < l.length := by omega
      clear hx hq c0 c1
      go_wp2_with fail
      go_meet
      case rel => exact ⟨rfl, rfl⟩
    · have j1 : ¬ ((k : Int) < l.length) := by omega
      go_wp2_with fail
      go_meet
      case rel => exact ⟨rfl, rfl⟩
    · have hkl := (List.getElem?_eq_some_iff.1 hy).1
      obtain ⟨b, o, rfl, hz, c0, c1, c2⟩ := HX.out k y hy
      have j0 : (0 : Int) ≤ (k : Int) := Int.natCast_nonneg _
      have j1 : (k : Int) < l.length := by omega
      clear hy c0 c1
      go_wp2_with fail
      go_meet
      case rel => exact ⟨rfl, rfl⟩
  case rest =>
  obtain ⟨rfl, rfl⟩ := hcut
  clear HC HP
  by_cases hH : H = []
  · have HQ : Hid (withinF l k = (k, k)) := Lib.hid (HR.out.trans (if_pos hH))
    subst hH
    go_wp2_with fail
    go_ret2
    rw [HQ.out]
    exact ⟨rfl, hw0⟩
  · have HQ : Hid (withinF l k = (backF l H k, forthF l H k)) := Lib.hid (HR.out.trans (if_neg hH))
    have hne : H.isEmpty = false := by simpa using hH
    clear HR hH
    go_wp2_with fail
    go_loopw [7] (fun i wr => ∃ j : Nat, j ≤ k ∧ i = .int .i64 j ∧ Hid (backF l H k = backF l H j) ∧ wc = wr) (fun i _ => (intOf i).toNat)
    case atStart => exact ⟨k, Nat.le_refl _, rfl, Lib.hid rfl, rfl⟩
    case round =>
      obtain ⟨j, hj, rfl, HJ, rfl⟩ := hrel
      have hdone : (j = 0 ∨ ∃ m, j = m + 1 ∧ ∃ x, l[m]? = some x ∧ x.href ≠ H) ∨ ∃ m, j = m + 1 ∧ ∃ x, l[m]? = some x ∧ x.href = H := by
        cases j with
        | zero => exact .inl (.inl rfl)
        | succ m =>
          obtain ⟨x, hx, _⟩ := getOf l m (by omega)
          by_cases e : x.href = H
          · exact .inr ⟨m, rfl, x, hx, e⟩
          · exact .inl (.inr ⟨m, rfl, x, hx, e⟩)
      rcases hdone with (rfl | ⟨m, rfl, x, hx, hxe⟩) | ⟨m, rfl, x, hx, hxe⟩
      · have HB' : Hid (backF l H k = 0) := Lib.hid (HJ.out.trans rfl)
        go_wp2_with fail
        go_loopw [8] (fun i wr => ∃ n : Nat, k ≤ n ∧ n ≤ l.length ∧ i = .int .i64 n ∧ Hid (forthF l H k = forthF l H n) ∧ wc = wr) (fun i _ => l.length - (intOf i).toNat)
        case atStart => exact ⟨k, Nat.le_refl _, hk, rfl, Lib.hid rfl, rfl⟩
        case round =>
          obtain ⟨n, hn, hnl, rfl, HN, rfl⟩ := hrel
          by_cases hlt : n < l.length
          · obtain ⟨y, hy, _⟩ := getOf l n hlt
            obtain ⟨b', o', hbe, hz', d0, d1, d2⟩ := HX.out n y hy
            subst hbe
            have n0 : (0 : Int) ≤ (n : Int) := Int.natCast_nonneg _
            by_cases hye : y.href = H
            · have HF := Lib.hid (HN.out.trans (forthF_on hy hye))
              have hq : (y.href == H) = true := by simpa using hye
              clear hy hye
              go_wp2_with fail
              go_roundw
              case rel => exact ⟨n + 1, by omega, by omega, by go_num, HF, by simp⟩
              case measure => simp [intOf]; omega
            · have HF := Lib.hid (HN.out.trans (forthF_off hy hye))
              have hq : (y.href == H) = false := by simpa using hye
              clear hy hye
              go_wp2_with fail
              go_ret2
              rw [HQ.out, HB'.out, HF.out]
              exact ⟨rfl, hw0⟩
          · obtain rfl : n = l.length := by omega
            have HF := Lib.hid (HN.out.trans (forthF_end (Nat.le_refl _)))
            go_wp2_with fail
            go_ret2
            rw [HQ.out, HB'.out, HF.out]
            exact ⟨rfl, hw0⟩
      · have HB' : Hid (backF l H k = m + 1) := Lib.hid (HJ.out.trans (by unfold backF; rw [if_neg (by simpa [List.getD, hx] using hxe)]))
        obtain ⟨b, o, rfl, hz, c0, c1, c2⟩ := HX.out m x hx
        have hq : (x.href == H) = false := by simpa using hxe
        have e3 : ((m + 1 : Nat) : Int) - 1 = m := by omega
        clear hx hxe
        go_wp2_with fail
        go_loopw [8] (fun i wr => ∃ n : Nat, k ≤ n ∧ n ≤ l.length ∧ i = .int .i64 n ∧ Hid (forthF l H k = forthF l H n) ∧ wc = wr) (fun i _ => l.length - (intOf i).toNat)
        case atStart => exact ⟨k, Nat.le_refl _, hk, rfl, Lib.hid rfl, rfl⟩
        case round =>
          obtain ⟨n, hn, hnl, rfl, HN, rfl⟩ := hrel
          by_cases hlt : n < l.length
          · obtain ⟨y, hy, _⟩ := getOf l n hlt
            obtain ⟨b', o', hbe, hz', d0, d1, d2⟩ := HX.out n y hy
            cases hbe
            have n0 : (0 : Int) ≤ (n : Int) := Int.natCast_nonneg _
            by_cases hye : y.href = H
            · have HF := Lib.hid (HN.out.trans (forthF_on hy hye))
              have hq : (y.href == H) = true := by simpa using hye
              clear hy hye
              go_wp2_with fail
              go_roundw
              case rel => exact ⟨n + 1, by omega, by omega, by go_num, HF, by simp⟩
              case measure => simp [intOf]; omega
            · have HF := Lib.hid (HN.out.trans (forthF_off hy hye))
              have hq : (y.href == H) = false := by simpa using hye
              clear hy hye
              go_wp2_with fail
              go_ret2
              rw [HQ.out, HB'.out, HF.out]
              exact ⟨rfl, hw0⟩
          · obtain rfl : n = l.length := by omega
            have HF := Lib.hid (HN.out.trans (forthF_end (Nat.le_refl _)))
            go_wp2_with fail
            go_ret2
            rw [HQ.out, HB'.out, HF.out]
            exact ⟨rfl, hw0⟩
      · have HB' := Lib.hid (HJ.out.trans (show backF l H (m + 1) = backF l H m by rw [backF, if_pos (by simpa [List.getD, hx] using hxe)]))
        obtain ⟨b, o, rfl, hz, c0, c1, c2⟩ := HX.out m x hx
        have hq : (x.href == H) = true := by simpa using hxe
        have e3 : ((m + 1 : Nat) : Int) - 1 = m := by omega
        clear hx hxe
        go_wp2_with fail
        go_roundw
        case rel => exact ⟨m, by omega, by go_num, HB', by simp⟩
        case measure => simp [intOf]
end Go.Proofs.YtpndnbjpnajaaaaGreatDoor
namespace Go.Proofs.YtpndnbjpnajaaaaGreatDoor
open Go.RowKit
open Go.Proofs.Qw
set_option maxRecDepth 100000 in
set_option maxHeartbeats 4000000 in
theorem refStMay_any (v : Value) (s : St) (w : World) (S : Nat → Prop) (h : LinsR w S v s.lines) (hs : Small s.lines) (ho : -9223372036854775808 ≤ s.on ∧ s.on ≤ 9223372036854775807) (hf : -9223372036854775808 ≤ s.off ∧ s.off ≤ 9223372036854775807) :
    Calls Tryz.prog 70 #[stV v s] w fun e w' => e = .returned (.bool (mayS s)) ∧ Below w.heap.size w w' := by
  obtain ⟨W1, hW1, hB, hz, hA⟩ := one_st w v s
  have hs1 := hB.size
  have hv := h.below (rdLin_stable _) hB
  have HC1 := Lib.hid (refMay_any v s.lines W1 S hv hs)
  have HC2 : Hid (∀ p : Ps, ∀ W, Below W1.heap.size W1 W → Calls Tryz.prog 144 #[v, .agg #[.int .i64 p.line, .int .i64 p.col]] W fun e w' => e = .returned (.bool (isD s.lines p)) ∧ Below W.heap.size W w') := Lib.hid fun p W hW => refIs_any v s.lines p W S (hv.below (rdLin_stable _) hW)
  have HB : Hid (∀ W, Below W1.heap.size W1 W → W.heap[w.heap.size]? = some (.cells #[v, .int .i64 s.anc.line, .int .i64 s.anc.col, .int .i64 s.foc.line, .int .i64 s.foc.col, .int .i64 s.on, .int .i64 s.off] 26)) := Lib.hid fun W hW => heap_below hW hA
  have HE : Hid (mayS s = (mayD s.lines && (isD s.lines s.anc && (isD s.lines s.foc && ((decide (0 ≤ s.on) && decide (s.on ≤ 15)) && ((decide (0 ≤ s.off) && decide (s.off ≤ 15)) && bits .and .i64 s.on s.off == 0)))))) := Lib.hid (by unfold mayS; rw [bits_small _ ho, bits_small _ hf])
  have H1 := Lib.hid hB
  have hw0 : Below W1.heap.size W1 W1 := Below.refl _ _
  obtain ⟨p0, f0⟩ := blk hA
  obtain ⟨va, vc, rfl⟩ := h.slice
  clear h hs hz hA hB hv ho hf
  generalize mayS s = r at *
  generalize mayD s.lines = x at *
  by_cases hq : (0 ≤ s.on ∧ s.on ≤ 15) ∧ (0 ≤ s.off ∧ s.off ≤ 15) ∧ bits .and .i64 s.on s.off = 0
  · obtain ⟨⟨h1, h2⟩, ⟨h3, h4⟩, h5⟩ := hq
    have HE : Hid (r = (x && (isD s.lines s.anc && isD s.lines s.foc))) := Lib.hid (by rw [HE.out]; simp [h1, h2, h3, h4, h5])
    have h6 : (bits .and .i64 s.on s.off != 0) = false := by simpa using h5
    clear h5
    go_enter Tryz.func70, Tryz.ntmps70
    go_wp2_with (first
      | (go_at_call 62; refine HC1.out.mono ?_; rintro e w2 ⟨rfl, hb2⟩; obtain ⟨p3, f3⟩ := blk (HB.out _ hb2); cases x)
      | (go_at_call 144; refine (HC2.out _ _ (by assumption)).mono ?_; rintro e w3 ⟨rfl, hb3⟩; have hx3 : Below W1.heap.size W1 w3 := below_from (by assumption) hb3; clear hb3; obtain ⟨p5, f5⟩ := blk (HB.out _ hx3)))
    all_goals
      go_ret
      refine ⟨?_, H1.out.trans (Below.mono (by assumption) hs1)⟩
      rw [HE.out]
      refine congrArg Ending.returned (congrArg Value.bool ?_)
      clear HE HC1 HC2 HB H1
      simp (config := { failIfUnchanged := false }) [*]
  · have HE : Hid (r = false) := Lib.hid (by
      rw [HE.out, Bool.eq_false_iff]
      intro h
      simp at h
      exact hq ⟨h.2.2.2.1, h.2.2.2.2.1, h.2.2.2.2.2⟩)
    have hq' : s.on < 0 ∨ (0 ≤ s.on ∧ 15 < s.on) ∨ (0 ≤ s.on ∧ s.on ≤ 15 ∧ s.off < 0) ∨ (0 ≤ s.on ∧ s.on ≤ 15 ∧ 0 ≤ s.off ∧ 15 < s.off) ∨ (0 ≤ s.on ∧ s.on ≤ 15 ∧ 0 ≤ s.off ∧ s.off ≤ 15 ∧ (bits .and .i64 s.on s.off != 0) = true) := by
      by_cases h5 : bits .and .i64 s.on s.off = 0
      · omega
      · have h6 : (bits .and .i64 s.on s.off != 0) = true := by simpa using h5
        simp only [h6, and_true]
        omega
    clear hq HC1 HC2
    rcases hq' with h1 | ⟨h1, h2⟩ | ⟨h1, h2, h3⟩ | ⟨h1, h2, h3, h4⟩ | ⟨h1, h2, h3, h4, h5⟩
    all_goals
      go_enter Tryz.func70, Tryz.ntmps70
      go_wp2_with fail
      go_ret
      rw [HE.out]
      exact ⟨rfl, H1.out⟩
end Go.Proofs.YtpndnbjpnajaaaaGreatDoor
namespace Go.Proofs.YtpndnbjpnajaaaaGreatDoor
open Go.RowKit
open Go.Proofs.Qw
set_option maxHeartbeats 1000000 in
theorem refCSpan_any (v : Value) (d : List Cel) (i j : Int) (w : World) (S : Nat → Prop) (own : Bool) (h : CelsR own w S v d) :
    Calls Tryz.prog 152 #[v, .int .i64 i, .int .i64 j] w fun e w' => e = .returned (.bool (spanC d.length i j)) ∧ w' = w := by
  obtain ⟨a, c, rfl⟩ := h.slice
  clear h
  have HS : Hid (spanC d.length i j = (decide (0 ≤ i) && (decide (i ≤ j) && decide (j ≤ (d.length : Int))))) := Lib.hid rfl
  go_enter Tryz.func152, Tryz.ntmps152
  go_wp2_with fail
  all_goals
    go_ret
    refine ⟨?_, rfl⟩
    rw [HS.out]
    refine congrArg Ending.returned (congrArg Value.bool ?_)
    clear HS
    simp (config := { failIfUnchanged := false }) [*]
  all_goals try omega
set_option maxRecDepth 100000 in
set_option maxHeartbeats 4000000 in
theorem refCSet_any (v : Value) (d : List Cel) (i j s c : Int) (w : World) (S : Nat → Prop) (own : Bool) (h : CelsR own w S v d) (hs : d.length ≤ 1000000) :
    Calls Tryz.prog 177 #[v, .int .i64 i, .int .i64 j, .int .i64 s, .int .i64 c] w (CellsSaid (eachC (setBits s c) d i j).1 (eachC (setBits s c) d i j).2 w) := by
  have HC1 := Lib.hid (refCSpan_any v d i j w S own h)
  have HC2 := Lib.hid (refOwnC_any v d own w S h hs)
  obtain ⟨a, cc, rfl⟩ := h.slice
  clear h
  cases hsp : spanC d.length i j
  · have HR : Hid (eachC (setBits s c) d i j = ([], 1)) := Lib.hid (by unfold eachC; rw [hsp]; rfl)
    rw [hsp] at HC1
    clear hsp
    go_enter Tryz.func177, Tryz.ntmps177
    go_wp2_with (go_at_call 152; refine HC1.out.mono ?_; rintro e w2 ⟨rfl, rfl⟩)
    go_ret2
    unfold CellsSaid
    rw [HR.out]
    exact ⟨_, rfl, SliceR.nil _ _ _ _ _ _, Below.refl _ _⟩
  · have hsp2 := hsp
    unfold spanC at hsp2
    simp only [Bool.and_eq_true, decide_eq_true_eq] at hsp2
    obtain ⟨i, rfl⟩ := Int.eq_ofNat_of_zero_le hsp2.1
    obtain ⟨j, rfl⟩ := Int.eq_ofNat_of_zero_le (show 0 ≤ j by omega)
    have hij : i ≤ j := by omega
    have hjd : j ≤ d.length := by omega
    have HR : Hid (eachC (setBits s c) d i j = (mapIn (setBits s c) i j d, 0)) := Lib.hid (by unfold eachC; rw [hsp]; rfl)
    rw [hsp] at HC1
    clear hsp hsp2
    go_enter Tryz.func177, Tryz.ntmps177
    go_wp2_with (first | (go_at_call 152; refine HC1.out.mono ?_; rintro e w2 ⟨rfl, rfl⟩) | (go_at_call 183; refine HC2.out.mono ?_; rintro e w3 ⟨v3, rfl, hv3, hb3⟩; obtain ⟨a3, c3, rfl⟩ := hv3.slice))
    have HV := Lib.hid hv3
    have HB := Lib.hid hb3
    have hcm := hv3.len.2
    unfold maxLen at hcm
    clear hv3 hb3
    go_loopw [13] (fun q wr => ∃ k : Nat, i ≤ k ∧ k ≤ j ∧ q = .int .i64 k ∧ CelsR true wr (fun b => w2.heap.size ≤ b) (.slice a3 d.length c3) (mapIn (setBits s c) i k d) ∧ Below w2.heap.size w2 wr) (fun q _ => j - (intOf q).toNat)
    case atStart => exact ⟨i, Nat.le_refl _, hij, rfl, by rw [mapIn_none]; exact HV.out, HB.out⟩
    case round =>
      obtain ⟨k, hk1, hk2, rfl, hO, hb⟩ := hrel
      by_cases hlt : k < j
      · obtain ⟨x, hx, _⟩ := getOf d k (by omega)
        have hxk := mapIn_at (setBits s c) (i := i) hx
        obtain ⟨b, o, cs, rfl, hbb, hgg, hsz⟩ := hO.cellAt (i := k) (by rw [mapIn_length]; omega)
        have hbb : w2.heap.size ≤ b := hbb
        have hcells : ∀ p u, (encCel x)[p]? = some u → wr.cell? ⟨b, o + k * 3 + p, none⟩ = some u ∧ wr.frozen? ⟨b, o + k * 3 + p, none⟩ = false := by
          obtain ⟨a', c', he, _, _, hxx⟩ := hO.shape
          injection he with he1 _ _
          subst he1
          obtain ⟨b', o', vs, he2, _, _, _, hvs, hcc⟩ := hxx k x hxk
          cases he2
          cases hvs
          exact fun p u hu => ⟨hcc p u hu, frozen_of_heap hgg⟩
        have k1 := (hcells 1 _ rfl).1
        have k1f := (hcells 1 _ rfl).2
        have HS := Lib.hid (SliceR.set1 eltCell.tag hO hxk (j := 1) (by decide) (.int .i64 (setBits s c x).bits) (x' := setBits s c x) (fun vs _ h => by rw [show vs = encCel x from h]; rfl))
        have HM := Lib.hid (mapIn_step (setBits s c) hk1 hx)
        have HBT : Hid ((setBits s c x).bits = bits .or .i64 (bits .andNot .i64 x.bits (bits .and .i64 c 15)) (bits .and .i64 s 15)) := Lib.hid rfl
        have i0 : (0 : Int) ≤ (k : Int) := Int.natCast_nonneg _
        have i1 : (k : Int) < (d.length : Int) := by omega
        clear hO hx hxk hgg hcells
        go_wp2_with fail
        go_roundw
        case rel => exact ⟨k + 1, by omega, hlt, by go_num, by rw [← HM.out, ← HBT.out]; exact HS.out, hb.setCell hbb _⟩
        case measure => simp [intOf]; omega
      · obtain rfl : k = j := by omega
        have HO := Lib.hid hO
        have HBB := Lib.hid hb
        clear hO hb
        go_wp2_with fail
        go_ret2
        unfold CellsSaid
        rw [HR.out]
        exact ⟨_, rfl, HO.out, HBB.out⟩
def linkRC (hr : List UInt8) (d : List Cel) (i j : Int) : List Cel × Int := if (spanC d.length i j && linkF hr) = true then (mapIn (setHref hr) i.toNat j.toNat d, 0) else ([], 1)
set_option maxRecDepth 100000 in
set_option maxHeartbeats 4000000 in
theorem refCLinks_any (v : Value) (d : List Cel) (i j : Int) (hr : List UInt8) (w : World) (S : Nat → Prop) (own : Bool) (h : CelsR own w S v d) (hs : d.length ≤ 1000000) (hh : hr.length ≤ 1000000) :
    Calls Tryz.prog 180 #[v, .int .i64 i, .int .i64 j, .string ⟨hr.toArray⟩] w (CellsSaid (linkRC hr d i j).1 (linkRC hr d i j).2 w) := by
  have HC1 := Lib.hid (refCSpan_any v d i j w S own h)
  have HL : Hid (∀ W, Calls Tryz.prog 179 #[.string ⟨hr.toArray⟩] W fun e w' => e = .returned (.bool (linkF hr)) ∧ Below W.heap.size W w') := Lib.hid fun W => refLink_any ⟨hr.toArray⟩ W (by show hr.toArray.size ≤ _; simpa using hh)
  have HC2 : Hid (∀ W, Below w.heap.size w W → Calls Tryz.prog 183 #[v] W fun e w' => ∃ v', e = .returned v' ∧ CelsR true w' (fun b => W.heap.size ≤ b) v' d ∧ Below W.heap.size W w') := Lib.hid fun W hW => refOwnC_any v d own W S (h.below (rdOf_stable _) hW) hs
  obtain ⟨a, cc, rfl⟩ := h.slice
  clear h
  cases hsp : spanC d.length i j
  · have HR : Hid (linkRC hr d i j = ([], 1)) := Lib.hid (by unfold linkRC; rw [hsp]; rfl)
    rw [hsp] at HC1
    clear hsp
    go_enter Tryz.func180, Tryz.ntmps180
    go_wp2_with (go_at_call 152; refine HC1.out.mono ?_; rintro e w2 ⟨rfl, rfl⟩)
    go_ret2
    unfold CellsSaid
    rw [HR.out]
    exact ⟨_, rfl, SliceR.nil _ _ _ _ _ _, Below.refl _ _⟩
  · have hsp2 := hsp
    unfold spanC at hsp2
    simp only [Bool.and_eq_true, decide_eq_true_eq] at hsp2
    obtain ⟨i, rfl⟩ := Int.eq_ofNat_of_zero_le hsp2.1
    obtain ⟨j, rfl⟩ := Int.eq_ofNat_of_zero_le (show 0 ≤ j by omega)
    have hij : i ≤ j := by omega
    have hjd : j ≤ d.length := by omega
    have HR0 : Hid (linkRC hr d i j = if linkF hr = true then (mapIn (setHref hr) i j d, 0) else ([], 1)) := Lib.hid (by unfold linkRC; rw [hsp, Bool.true_and]; rfl)
    generalize linkF hr = lk at *
    rw [hsp] at HC1
    clear hsp hsp2
    cases lk
    · have HR := Lib.hid HR0.out
      clear HR0
      go_enter Tryz.func180, Tryz.ntmps180
      go_wp2_with (first | (go_at_call 152; refine HC1.out.mono ?_; rintro e w2 ⟨rfl, rfl⟩) | (go_at_call 179; refine (HL.out _).mono ?_; rintro e w3 ⟨rfl, hb3⟩))
      go_ret2
      unfold CellsSaid
      rw [HR.out]
      exact ⟨_, rfl, SliceR.nil _ _ _ _ _ _, hb3⟩
    · have HR : Hid (linkRC hr d i j = (mapIn (setHref hr) i j d, 0)) := Lib.hid HR0.out
      clear HR0
      go_enter Tryz.func180, Tryz.ntmps180
      go_wp2_with (first | (go_at_call 152; refine HC1.out.mono ?_; rintro e w2 ⟨rfl, rfl⟩) | (go_at_call 179; refine (HL.out _).mono ?_; rintro e w3 ⟨rfl, hb3⟩) | (go_at_call 183; refine (HC2.out _ hb3).mono ?_; rintro e w4 ⟨v3, rfl, hv3, hb4⟩; obtain ⟨a3, c3, rfl⟩ := hv3.slice))
      have hbw := hb3.size
      have HV := Lib.hid (SliceR.stable (rdOf_stable _) hv3 (Keeps.refl _ _) (S' := fun b => w2.heap.size ≤ b) (fun b h _ => Nat.le_trans hbw h))
      have HB := Lib.hid (below_from hb3 hb4)
      have hcm := hv3.len.2
      unfold maxLen at hcm
      clear hv3 hb3 hb4
      go_loopw [11] (fun q wr => ∃ k : Nat, i ≤ k ∧ k ≤ j ∧ q = .int .i64 k ∧ CelsR true wr (fun b => w2.heap.size ≤ b) (.slice a3 d.length c3) (mapIn (setHref hr) i k d) ∧ Below w2.heap.size w2 wr) (fun q _ => j - (intOf q).toNat)
      case atStart => exact ⟨i, Nat.le_refl _, hij, rfl, by rw [mapIn_none]; exact HV.out, HB.out⟩
      case round =>
        obtain ⟨k, hk1, hk2, rfl, hO, hb⟩ := hrel
        by_cases hlt : k < j
        · obtain ⟨x, hx, _⟩ := getOf d k (by omega)
          have hxk := mapIn_at (setHref hr) (i := i) hx
          obtain ⟨b, o, cs, rfl, hbb, hgg, hsz⟩ := hO.cellAt (i := k) (by rw [mapIn_length]; omega)
          have hbb : w2.heap.size ≤ b := hbb
          have hcells : ∀ p u, (encCel x)[p]? = some u → wr.cell? ⟨b, o + k * 3 + p, none⟩ = some u ∧ wr.frozen? ⟨b, o + k * 3 + p, none⟩ = false := by
            obtain ⟨a', c', he, _, _, hxx⟩ := hO.shape
            injection he with he1 _ _
            subst he1
            obtain ⟨b', o', vs, he2, _, _, _, hvs, hcc⟩ := hxx k x hxk
            cases he2
            cases hvs
            exact fun p u hu => ⟨hcc p u hu, frozen_of_heap hgg⟩
          have k1 := (hcells 2 _ rfl).1
          have k1f := (hcells 2 _ rfl).2
          have HS := Lib.hid (SliceR.set1 eltCell.tag hO hxk (j := 2) (by decide) (.string ⟨(setHref hr x).href.toArray⟩) (x' := setHref hr x) (fun vs _ h => by rw [show vs = encCel x from h]; rfl))
          have HM := Lib.hid (mapIn_step (setHref hr) hk1 hx)
          have HBT : Hid ((setHref hr x).href = hr) := Lib.hid rfl
          have i0 : (0 : Int) ≤ (k : Int) := Int.natCast_nonneg _
          have i1 : (k : Int) < (d.length : Int) := by omega
          clear hO hx hxk hgg hcells
          go_wp2_with fail
          go_roundw
          case rel => exact ⟨k + 1, by omega, hlt, by go_num, by have h9 := HS.out; rw [HM.out, HBT.out] at h9; exact h9, hb.setCell hbb _⟩
          case measure => simp [intOf]; omega
        · obtain rfl : k = j := by omega
          have HO := Lib.hid hO
          have HBB := Lib.hid hb
          clear hO hb
          go_wp2_with fail
          go_ret2
          unfold CellsSaid
          rw [HR.out]
          exact ⟨_, rfl, HO.out, HBB.out⟩
set_option maxRecDepth 100000 in
set_option maxHeartbeats 2000000 in
theorem refCSome_any (v : Value) (d : List Cel) (t : Int) (w : World) (S : Nat → Prop) (h : CelsR false w S v d) :
    Calls Tryz.prog 82 #[v, .int .i64 0, .int .i64 d.length, .int .i64 t] w fun e w' => e = .returned (.bool (d.any fun x => bits .and .i64 x.bits t != 0)) ∧ w' = w := by
  have HC1 := Lib.hid (refCSpan_any v d 0 d.length w S false h)
  have hsp : spanC d.length 0 d.length = true := by unfold spanC; simp
  rw [hsp] at HC1
  obtain ⟨a, cc, rfl, hcc, hcm, hx⟩ := cels_shape h
  have HX := Lib.hid hx
  unfold maxLen at hcm
  clear h hsp hx
  go_enter Tryz.func82, Tryz.ntmps82
  go_wp2_with (go_at_call 152; refine HC1.out.mono ?_; rintro e w2 ⟨rfl, rfl⟩)
  go_loop [9] (fun q => ∃ k : Nat, k ≤ d.length ∧ q = .int .i64 k ∧ Hid (∀ x ∈ d.take k, (bits .and .i64 x.bits t != 0) = false)) (fun q => d.length - (intOf q).toNat)
  case atStart => exact ⟨0, Nat.zero_le _, rfl, Lib.hid (by simp)⟩
  case round =>
    obtain ⟨k, hk, rfl, HI⟩ := hrel
    by_cases hlt : k < d.length
    · obtain ⟨x, hxx, _⟩ := getOf d k hlt
      obtain ⟨b, o, rfl, hz, c0, c1, c2⟩ := HX.out k x hxx
      have HXX := Lib.hid hxx
      have i0 : (0 : Int) ≤ (k : Int) := Int.natCast_nonneg _
      have i1 : (k : Int) < (d.length : Int) := by omega
      clear hxx
      cases ht : (bits .and .i64 x.bits t != 0)
      · have HT := Lib.hid ht
        go_wp2_with fail
        go_round
        case rel =>
          refine ⟨k + 1, hlt, by go_num, Lib.hid ?_⟩
          intro y hy
          rw [take_some HXX.out, List.mem_append, List.mem_singleton] at hy
          rcases hy with hy | rfl
          · exact HI.out y hy
          · have := HT.out; simpa using this
        case measure => simp [intOf]; omega
      · have HT := Lib.hid ht
        have HM := Lib.hid (List.mem_of_getElem? HXX.out)
        go_wp2_with fail
        go_ret
        refine ⟨?_, rfl⟩
        refine congrArg Ending.returned (congrArg Value.bool ?_)
        have h1 := HT.out
        have h2 := HM.out
        clear HT ht
        first
          | (refine (Bool.eq_false_iff.2 fun hh => ?_).symm
             rw [Bool.and_eq_true, List.all_eq_true] at hh
             have := hh.2 x h2
             rw [bne, this] at h1
             cases h1)
          | exact (List.any_eq_true.2 ⟨x, h2, h1⟩).symm
    · obtain rfl : k = d.length := by omega
      go_wp2_with fail
      go_ret
      refine ⟨?_, rfl⟩
      refine congrArg Ending.returned (congrArg Value.bool ?_)
      have hI := HI.out
      rw [List.take_length] at hI
      first
        | (rw [show (d.all fun x => bits .and .i64 x.bits t == t) = true from List.all_eq_true.2 hI, Bool.and_true])
        | exact (List.any_eq_false.2 fun x hx => by rw [hI x hx]; simp).symm
end Go.Proofs.YtpndnbjpnajaaaaGreatDoor
namespace Go.Proofs.YtpndnbjpnajaaaaGreatDoor
open Go.RowKit
open Go.Proofs.Qw
attribute [local go_sem] Oper.semAt_some
set_option maxRecDepth 100000 in
set_option maxHeartbeats 4000000 in
theorem refStRow_any (v : Value) (s : St) (w : World) (S : Nat → Prop) (h : LinsR w S v s.lines) (hs : Small s.lines) (hf : Fits s.lines) :
    Calls Tryz.prog 79 #[stV v s] w fun e w' => ∃ v', e = .returned v' ∧ CelsR true w' (fun b => w.heap.size ≤ b) v' (selS s) ∧ Below w.heap.size w w' := by
  obtain ⟨W1, hW1, hB, hz, k0⟩ := one_st w v s
  have HB : Hid (∀ W, Below W1.heap.size W1 W → W.heap[w.heap.size]? = some (.cells #[v, .int .i64 s.anc.line, .int .i64 s.anc.col, .int .i64 s.foc.line, .int .i64 s.foc.col, .int .i64 s.on, .int .i64 s.off] 26)) := Lib.hid fun W hW => heap_below hW k0
  have hs1 := hB.size
  have H1 := Lib.hid hB
  have hw0 : Below W1.heap.size W1 W1 := Below.refl _ _
  have HV : Hid (∀ W, Below W1.heap.size W1 W → LinsR W S v s.lines) := Lib.hid fun W hW => h.below (rdLin_stable _) (hB.trans (hW.mono hs1))
  have HSp : Hid (∀ W, Below W1.heap.size W1 W → Calls Tryz.prog 69 #[stV v s] W fun e w' => e = .returned (.tuple #[.agg #[.int .i64 (spanS s).1.line, .int .i64 (spanS s).1.col], .agg #[.int .i64 (spanS s).2.line, .int .i64 (spanS s).2.col]]) ∧ Below W.heap.size W w') := Lib.hid fun W _ => refStSpan_any v s W
  obtain ⟨A, B, hAB⟩ : ∃ A B, spanS s = (A, B) := ⟨_, _, rfl⟩
  have hsel : selS s = cellsD s.lines A B := by unfold selS; rw [hAB]
  rw [hsel]
  rw [hAB] at HSp
  simp only at HSp
  have HC : Hid (∀ W, Below W1.heap.size W1 W → Calls Tryz.prog 89 #[v, .agg #[.int .i64 A.line, .int .i64 A.col], .agg #[.int .i64 B.line, .int .i64 B.col]] W fun e w' => ∃ v', e = .returned v' ∧ CelsR true w' (fun b => W.heap.size ≤ b) v' (cellsD s.lines A B) ∧ Below W.heap.size W w') := Lib.hid fun W hW => refCells_any v s.lines A B W S (HV.out W hW) hs hf
  obtain ⟨p0, f0⟩ := blk k0
  obtain ⟨va, vc, rfl⟩ := h.slice
  clear h hs hf hAB hsel k0 hB
  go_enter Tryz.func79, Tryz.ntmps79
  go_wp2_with (first
    | (go_at_call 69; refine (HSp.out _ hw0).mono ?_; rintro e w2 ⟨rfl, hst2⟩; have hb2 := below_from hw0 hst2; obtain ⟨q0, g0⟩ := blk (HB.out _ hb2); have hz2 := hb2.size; have e2 : ¬ w2.heap.size = w.heap.size := (by omega); have r0 := on2 (HB.out _ hb2); have HX2 : Hid (∀ X Y, Below W1.heap.size W1 ((w2.alloc X).alloc Y)) := Lib.hid fun X Y => hb2.trans (below2 (Below.refl _ _) X Y |>.mono hz2))
    | (go_at_call 89; refine (HC.out _ (HX2.out _ _)).mono ?_; rintro e w3 ⟨v3, rfl, hv3, hst3⟩; obtain ⟨a3, c3, rfl⟩ := hv3.slice; have hb3 := below_from (HX2.out _ _) hst3; have HV3 := Lib.hid hv3; clear hv3))
  go_ret
  exact ⟨_, rfl, SliceR.stable (rdOf_stable _) HV3.out (Keeps.refl _ _) (fun b h _ => (by have h' := h; simp at h'; omega)), H1.out.trans (hb3.mono hs1)⟩
set_option maxRecDepth 100000 in
set_option maxHeartbeats 4000000 in
theorem refStBits_any (v : Value) (s : St) (w : World) (S : Nat → Prop) (h : LinsR w S v s.lines) (hs : Small s.lines) (hf : Fits s.lines) (ho : -9223372036854775808 ≤ s.on ∧ s.on ≤ 9223372036854775807) (hof : -9223372036854775808 ≤ s.off ∧ s.off ≤ 9223372036854775807) :
    Calls Tryz.prog 20 #[stV v s] w fun e w' => e = .returned (.int .i64 (bitsS s)) ∧ Below w.heap.size w w' := by
  obtain ⟨W1, hW1, hB, hz, k0⟩ := one_st w v s
  have HB : Hid (∀ W, Below W1.heap.size W1 W → W.heap[w.heap.size]? = some (.cells #[v, .int .i64 s.anc.line, .int .i64 s.anc.col, .int .i64 s.foc.line, .int .i64 s.foc.col, .int .i64 s.on, .int .i64 s.off] 26)) := Lib.hid fun W hW => heap_below hW k0
  have hs1 := hB.size
  have H1 := Lib.hid hB
  have hw0 : Below W1.heap.size W1 W1 := Below.refl _ _
  have HV : Hid (∀ W, Below W1.heap.size W1 W → LinsR W S v s.lines) := Lib.hid fun W hW => h.below (rdLin_stable _) (hB.trans (hW.mono hs1))
  have HM : Hid (∀ W, Below W1.heap.size W1 W → Calls Tryz.prog 70 #[stV v s] W fun e w' => e = .returned (.bool (mayS s)) ∧ Below W.heap.size W w') := Lib.hid fun W hW => refStMay_any v s W S (HV.out W hW) hs ho hof
  have HRo : Hid (∀ W, Below W1.heap.size W1 W → Calls Tryz.prog 79 #[stV v s] W fun e w' => ∃ v', e = .returned v' ∧ CelsR true w' (fun b => W.heap.size ≤ b) v' (selS s) ∧ Below W.heap.size W w') := Lib.hid fun W hW => refStRow_any v s W S (HV.out W hW) hs hf
  have HR : Hid (bitsS s = if mayS s = true then (if s.anc = s.foc then bits .or .i64 (bits .andNot .i64 (aroundF (cellsAt s) s.anc.col.toNat).1 s.off) s.on else bitsL (selS s)) else 0) := Lib.hid rfl
  obtain ⟨R, hRR⟩ : ∃ R, bitsS s = R := ⟨_, rfl⟩
  rw [hRR] at HR ⊢
  clear hRR
  cases hm : mayS s
  · rw [hm] at HM HR
    have HR : Hid (R = 0) := Lib.hid (HR.out.trans (if_neg (by simp)))
    obtain ⟨p0, f0⟩ := blk k0
    obtain ⟨va, vc, rfl⟩ := h.slice
    clear h hs hf k0 hB hm
    go_enter Tryz.func20, Tryz.ntmps20
    go_wp2_with ((go_at_call 70; refine (HM.out _ hw0).mono ?_; rintro e w2 ⟨rfl, hst2⟩; have hb2 := below_from hw0 hst2; skip))
    go_ret
    rw [HR.out]
    exact ⟨rfl, H1.out.trans (hb2.mono hs1)⟩
  have hg := guardPos
  have hq := fun (w : World) => run_eql_pos s.anc s.foc w
  by_cases hc : s.anc = s.foc
  · rw [hm] at HM HR
    rw [if_pos rfl, if_pos hc] at HR
    rw [decide_eq_true hc] at hq
    have HR := Lib.hid HR.out
    obtain ⟨i, n, l, hi, hn, hl, hcl, hnn, hnl⟩ := place_at (mayS_at hm).2.1
    have hc1 : (aroundF (cellsAt s) s.anc.col.toNat) = aroundF l.cells n := by unfold cellsAt; rw [hcl, hnn]
    obtain ⟨x, y, hxy⟩ : ∃ x y, aroundF l.cells n = (x, y) := ⟨_, _, rfl⟩
    rw [hc1, hxy] at HR
    have HXY := Lib.hid hxy
    have hil := (List.getElem?_eq_some_iff.1 hl).1
    obtain ⟨va, vc, rfl, hvc, hvm, hx⟩ := lins_shape h
    obtain ⟨b, o, la, lc, ca, cc, rfl, hAt⟩ := hx i l hl
    have HAT : Hid (∀ W, Below W1.heap.size W1 W → LinAt W S b (o + i * 4) l la lc ca cc) := Lib.hid fun W hW => hAt.below (hB.trans (hW.mono hs1))
    have HAr : Hid (∀ W, Below W1.heap.size W1 W → Calls Tryz.prog 78 #[.slice ca l.cells.length cc, .int .i64 n] W fun e w' => e = .returned (.tuple #[.int .i64 x, .string ⟨y.toArray⟩]) ∧ Below W.heap.size W w') := Lib.hid fun W hW => by
      have := refAround_any _ l.cells n W S (HAT.out W hW).cellsR hnl
      rw [HXY.out] at this
      exact this
    unfold maxLen at hvm
    have i0 : (0 : Int) ≤ (i : Int) := Int.natCast_nonneg _
    have i1 : (i : Int) < (s.lines.length : Int) := by omega
    obtain ⟨p0, f0⟩ := blk k0
    obtain ⟨lines, anc, foc, on, off⟩ := s
    obtain ⟨al, ac⟩ := anc
    simp only at hi hn hc
    subst hi hn hc
    clear h hs hf hm hcl hnn hc1 hxy hl hx hAt k0 hB HRo
    go_enter Tryz.func20, Tryz.ntmps20
    go_wp2_with ((go_at_call 70; refine (HM.out _ hw0).mono ?_; rintro e w2 ⟨rfl, hst2⟩; have hb2 := below_from hw0 hst2; obtain ⟨q0, g0⟩ := blk (HB.out _ hb2)))
    clear p0 f0 q0 g0
    refine wp_region_grew w2.heap.size (by kernel_rfl) (by kernel_rfl) ?_
    refine BigFrame.wpQuiet_want (by kernel_rfl) (fun K hK => ?_)
    refine quiet_val ?_ (fun W hW => ?_) (hK _ ?_)
    rotate_left 1
    · skip
      go_simp
      try rfl
    clear hK
    clear K
    try simp only [Act.put, List.setIfInBounds_toArray, List.set_cons_zero, List.set_cons_succ]
    refine BigFrame.wpQuiet_want (by kernel_rfl) (fun K hK => ?_)
    refine quiet_val ?_ (fun W hW => ?_) (hK _ ?_)
    rotate_left 1
    · skip
      obtain ⟨p0, f0⟩ := blk (HB.out _ (below_from hb2 hW))
      obtain ⟨_, _, _, _, c3, _, _⟩ := HAT.out _ (below_from hb2 hW)
      go_simp
      try rfl
    clear hK
    clear K
    try simp only [Act.put, List.setIfInBounds_toArray, List.set_cons_zero, List.set_cons_succ]
    refine BigFrame.wpQuiet_want (by kernel_rfl) (fun K hK => ?_)
    refine quiet_val ?_ (fun W hW => ?_) (hK _ ?_)
    rotate_left 1
    · skip
      go_simp
      try rfl
    clear hK
    clear K
    try simp only [Act.put, List.setIfInBounds_toArray, List.set_cons_zero, List.set_cons_succ]
    refine BigFrame.wpQuiet_want (by kernel_rfl) (fun K hK => ?_)
    refine quiet_val ?_ (fun W hW => ?_) (hK _ ?_)
    rotate_left 1
    · skip
      go_simp
      try rfl
    clear hK
    clear K
    try simp only [Act.put, List.setIfInBounds_toArray, List.set_cons_zero, List.set_cons_succ]
    refine BigFrame.wpQuiet_want (by kernel_rfl) (fun K hK => ?_)
    refine quiet_val ?_ (fun W hW => ?_) (hK _ ?_)
    rotate_left 1
    · skip
      obtain ⟨p0, f0⟩ := blk (HB.out _ (below_from hb2 hW))
      obtain ⟨_, _, _, _, c3, _, _⟩ := HAT.out _ (below_from hb2 hW)
      go_simp
      try rfl
    clear hK
    clear K
    try simp only [Act.put, List.setIfInBounds_toArray, List.set_cons_zero, List.set_cons_succ]
    refine BigFrame.wpQuiet_want (by kernel_rfl) (fun K hK => ?_)
    refine quiet_val ?_ (fun W hW => ?_) (hK _ ?_)
    rotate_left 1
    · skip
      go_simp
      try rfl
    clear hK
    clear K
    try simp only [Act.put, List.setIfInBounds_toArray, List.set_cons_zero, List.set_cons_succ]
    refine BigFrame.wpQuiet_want (by kernel_rfl) (fun K hK => ?_)
    refine quiet_val ?_ (fun W hW => ?_) (hK _ ?_)
    rotate_left 1
    · skip
      go_simp
      try rfl
    clear hK
    clear K
    try simp only [Act.put, List.setIfInBounds_toArray, List.set_cons_zero, List.set_cons_succ]
    refine BigFrame.wpQuiet_want (by kernel_rfl) (fun K hK => ?_)
    refine quiet_val ?_ (fun W hW => ?_) (hK _ ?_)
    rotate_left 1
    · skip
      obtain ⟨p0, f0⟩ := blk (HB.out _ (below_from hb2 hW))
      obtain ⟨_, _, _, _, c3, _, _⟩ := HAT.out _ (below_from hb2 hW)
      go_simp
      try rfl
    clear hK
    clear K
    try simp only [Act.put, List.setIfInBounds_toArray, List.set_cons_zero, List.set_cons_succ]
    refine BigFrame.wpQuiet_want (by kernel_rfl) (fun K hK => ?_)
    refine quiet_val ?_ (fun W hW => ?_) (hK _ ?_)
    rotate_left 1
    · skip
      go_simp
      try rfl
    clear hK
    clear K
    try simp only [Act.put, List.setIfInBounds_toArray, List.set_cons_zero, List.set_cons_succ]
    refine BigFrame.wpQuiet_want (by kernel_rfl) (fun K hK => ?_)
    refine quiet_val ?_ (fun W hW => ?_) (hK _ ?_)
    rotate_left 1
    · skip
      go_simp
      try rfl
    clear hK
    clear K
    try simp only [Act.put, List.setIfInBounds_toArray, List.set_cons_zero, List.set_cons_succ]
    refine BigFrame.wpQuiet_want (by kernel_rfl) (fun K hK => ?_)
    refine quiet_val ?_ (fun W hW => ?_) (hK _ ?_)
    rotate_left 1
    · skip
      obtain ⟨p0, f0⟩ := blk (HB.out _ (below_from hb2 hW))
      obtain ⟨_, _, _, _, c3, _, _⟩ := HAT.out _ (below_from hb2 hW)
      go_simp
      try rfl
    clear hK
    clear K
    try simp only [Act.put, List.setIfInBounds_toArray, List.set_cons_zero, List.set_cons_succ]
    refine BigFrame.wpQuiet_want (by kernel_rfl) (fun K hK => ?_)
    refine quiet_calls (f := ?_) (args := ?_) ?_ (fun W hW => ?_) (fun W hW => ?_) (hK _ ?_)
    rotate_left 3
    · go_simp
      constructor <;> rfl
    · refine (HAr.out _ (below_from hb2 hW)).mono ?_
      rintro e W2 ⟨rfl, hbW⟩
      refine ⟨?_, below_from hW hbW⟩
      rfl
    clear hK
    clear K
    try simp only [Act.put, List.setIfInBounds_toArray, List.set_cons_zero, List.set_cons_succ]
    refine BigFrame.wpQuiet_want (by kernel_rfl) (fun K hK => ?_)
    refine quiet_val ?_ (fun W hW => ?_) (hK _ ?_)
    rotate_left 1
    · skip
      go_simp
      try rfl
    clear hK
    clear K
    try simp only [Act.put, List.setIfInBounds_toArray, List.set_cons_zero, List.set_cons_succ]
    refine BigFrame.wpQuiet_want (by kernel_rfl) (fun K hK => ?_)
    refine quiet_val ?_ (fun W hW => ?_) (hK _ ?_)
    rotate_left 1
    · skip
      go_simp
      try rfl
    clear hK
    clear K
    try simp only [Act.put, List.setIfInBounds_toArray, List.set_cons_zero, List.set_cons_succ]
    refine BigFrame.wpQuiet_want (by kernel_rfl) (fun K hK => ?_)
    refine quiet_val ?_ (fun W hW => ?_) (hK _ ?_)
    rotate_left 1
    · skip
      go_simp
      try rfl
    clear hK
    clear K
    try simp only [Act.put, List.setIfInBounds_toArray, List.set_cons_zero, List.set_cons_succ]
    refine BigFrame.wpQuiet_want (by kernel_rfl) (fun K hK => ?_)
    refine quiet_val ?_ (fun W hW => ?_) (hK _ ?_)
    rotate_left 1
    · skip
      go_simp
      try rfl
    clear hK
    clear K
    try simp only [Act.put, List.setIfInBounds_toArray, List.set_cons_zero, List.set_cons_succ]
    refine BigFrame.wpQuiet_want (by kernel_rfl) (fun K hK => ?_)
    refine quiet_val ?_ (fun W hW => ?_) (hK _ ?_)
    rotate_left 1
    · skip
      go_simp
      try rfl
    clear hK
    clear K
    try simp only [Act.put, List.setIfInBounds_toArray, List.set_cons_zero, List.set_cons_succ]
    refine wpQuiet_nil (fun X6 hstX6 => ?_)
    have hcX6 := below_from hb2 hstX6
    obtain ⟨p0, f0⟩ := blk (HB.out _ hcX6)
    go_wp2_with fail
    go_ret
    rw [HR.out]
    exact ⟨rfl, H1.out.trans (hcX6.mono hs1)⟩
  · rw [hm] at HM HR
    rw [if_pos rfl, if_neg hc] at HR
    rw [decide_eq_false hc] at hq
    have HR := Lib.hid HR.out
    have HL : Hid ((selS s).length ≤ 100000) := Lib.hid (Nat.le_trans (cellsD_size _ _ _) hs.1)
    obtain ⟨L, hL⟩ : ∃ L, selS s = L := ⟨_, rfl⟩
    rw [hL] at HR HRo HL
    obtain ⟨p0, f0⟩ := blk k0
    obtain ⟨va, vc, rfl⟩ := h.slice
    clear h hs hf hm hc hL k0 hB
    go_enter Tryz.func20, Tryz.ntmps20
    cases L with
    | nil =>
      go_wp2_with (first
        | (go_at_call 70; refine (HM.out _ hw0).mono ?_; rintro e w2 ⟨rfl, hst2⟩; have hb2 := below_from hw0 hst2; obtain ⟨q0, g0⟩ := blk (HB.out _ hb2))
        | (go_at_call 79; refine (HRo.out _ hb2).mono ?_; rintro e w3 ⟨v3, rfl, hv3, hst3⟩; obtain ⟨a3, c3, rfl⟩ := hv3.slice; have hb3 := below_from hb2 hst3; clear hv3))
      go_ret
      rw [HR.out]
      exact ⟨rfl, H1.out.trans (hb3.mono hs1)⟩
    | cons c l =>
      have HR : Hid (R = andB (c :: l)) := Lib.hid (HR.out.trans (if_neg (by simp)))
      obtain ⟨L, hL⟩ : ∃ L, c :: l = L := ⟨_, rfl⟩
      have hn0 : ((L.length : Int) == 0) = false := by rw [← hL]; simp; omega
      rw [hL] at HR HRo HL
      clear hL
      have hLL := HL.out
      go_wp2_with (first
        | (go_at_call 70; refine (HM.out _ hw0).mono ?_; rintro e w2 ⟨rfl, hst2⟩; have hb2 := below_from hw0 hst2; obtain ⟨q0, g0⟩ := blk (HB.out _ hb2))
        | (go_at_call 79; refine (HRo.out _ hb2).mono ?_; rintro e w3 ⟨v3, rfl, hv3, hst3⟩; have hb3 := below_from hb2 hst3; obtain ⟨a3, c3, rfl, hc3, hm3, hx3⟩ := cels_shape (SliceR.read (fun _ _ h => h) hv3); have HX3 := Lib.hid hx3; clear hv3 hx3))
      unfold maxLen at hm3
      have HF : Hid (andB (L.take 0) = 15) := Lib.hid rfl
      have H3 := Lib.hid (H1.out.trans (hb3.mono hs1))
      go_loopw [6, 7] (fun a i wr => ∃ k : Nat, k ≤ L.length ∧ i = .int .i64 k ∧ a = .int .i64 (andB (L.take k)) ∧ w3 = wr) (fun _ i _ => L.length - (intOf i).toNat)
      case atStart => exact ⟨0, Nat.zero_le _, rfl, by rw [HF.out], rfl⟩
      case round =>
        obtain ⟨k, hk, rfl, rfl, rfl⟩ := hrel
        by_cases hlt : k < L.length
        · obtain ⟨x, hx, _⟩ := getOf L k hlt
          obtain ⟨b, o, rfl, hz', c0, c1, c2⟩ := HX3.out k x hx
          have HS : Hid (andB (L.take (k + 1)) = bits .and .i64 (andB (L.take k)) x.bits) := Lib.hid (by rw [take_some hx, andB_snoc])
          obtain ⟨A, hA⟩ : ∃ A, andB (L.take k) = A := ⟨_, rfl⟩
          rw [hA] at HS ⊢
          clear hx hA c0 c2
          go_wp2_with fail
          go_roundw
          case rel => exact ⟨k + 1, hlt, by go_num, by rw [HS.out], by simp⟩
          case measure => simp [intOf]; omega
        · obtain rfl : k = L.length := by omega
          rw [List.take_length]
          obtain ⟨A, hA⟩ : ∃ A, andB L = A := ⟨_, rfl⟩
          rw [hA] at HR ⊢
          clear hA
          go_wp2_with fail
          go_ret
          rw [HR.out]
          exact ⟨rfl, H3.out⟩
end Go.Proofs.YtpndnbjpnajaaaaGreatDoor
namespace Go.Proofs.YtpndnbjpnajaaaaGreatDoor
open Go.RowKit
open Go.Proofs.Qw
set_option maxRecDepth 100000 in
set_option maxHeartbeats 4000000 in
theorem refStOwn_any (v : Value) (s : St) (w : World) (S : Nat → Prop) (h : LinsR w S v s.lines) (hf : Fits s.lines) :
    Calls Tryz.prog 33 #[stV v s] w fun e w' => ∃ v', e = .returned (stV v' s) ∧ DocR true w' (fun b => w.heap.size ≤ b) v' s.lines ∧ Below w.heap.size w w' := by
  obtain ⟨W1, hW1, hB, hz, k0, k1⟩ := st_two w v s
  have hs1 := hB.size
  have HC : Hid (∀ W, Below W1.heap.size W1 W → Calls Tryz.prog 102 #[v] W fun e w' => ∃ v', e = .returned v' ∧ DocR true w' (fun b => W.heap.size ≤ b) v' s.lines ∧ Below W.heap.size W w') := Lib.hid fun W hW => refOwnD_any v s.lines W S (h.below (rdLin_stable _) (hB.trans (hW.mono hs1))) hf
  have HB : Hid (∀ W, Below W1.heap.size W1 W → W.heap[w.heap.size]? = some (.cells #[v, .int .i64 s.anc.line, .int .i64 s.anc.col, .int .i64 s.foc.line, .int .i64 s.foc.col, .int .i64 s.on, .int .i64 s.off] 26) ∧ W.heap[w.heap.size + 1]? = some (.cells #[.slice none 0 0, .int .i64 0, .int .i64 0, .int .i64 0, .int .i64 0, .int .i64 0, .int .i64 0] 26)) := Lib.hid fun W hW => ⟨heap_below hW k0, heap_below hW k1⟩
  have H1 := Lib.hid hB
  have hb0 : Below W1.heap.size W1 W1.drew := (Below.refl _ _).drew
  obtain ⟨p0, f0⟩ := blk k0
  obtain ⟨va, vc, rfl⟩ := h.slice
  clear h hf k0 k1 hB
  go_enter Tryz.func33, Tryz.ntmps33
  go_wp2_with fail
  go_region_held3 (fun w' => w'.cell? ⟨w.heap.size, 0, none⟩ = some (.slice va s.lines.length vc) ∧ w'.cell? ⟨w.heap.size, 1, none⟩ = some (.int .i64 s.anc.line) ∧ w'.cell? ⟨w.heap.size, 2, none⟩ = some (.int .i64 s.anc.col) ∧ w'.cell? ⟨w.heap.size, 3, none⟩ = some (.int .i64 s.foc.line) ∧ w'.cell? ⟨w.heap.size, 4, none⟩ = some (.int .i64 s.foc.col) ∧ w'.cell? ⟨w.heap.size, 5, none⟩ = some (.int .i64 s.on) ∧ w'.cell? ⟨w.heap.size, 6, none⟩ = some (.int .i64 s.off)) (go_keep)
    ((go_at_call 102; refine (HC.out _ hb0).mono ?_; rintro e w2 ⟨v2, rfl, hv2, hb2'⟩; obtain ⟨a2, c2, rfl⟩ := hv2.slice; have hb2 := below_from hb0 hb2'; obtain ⟨q0, g0⟩ := blk (HB.out _ hb2).1; obtain ⟨q1, g1⟩ := blk (HB.out _ hb2).2; have HV := Lib.hid hv2; clear hv2))
  go_wp2_with fail
  refine bodyPost_ret (results_st rfl _ _ (w.heap.size + 1) (.slice a2 s.lines.length c2) (.int .i64 s.anc.line) (.int .i64 s.anc.col) (.int .i64 s.foc.line) (.int .i64 s.foc.col) (.int .i64 s.on) (.int .i64 s.off) rfl (by simp [heap_set, putIn, (HB.out _ hb2).2])) rfl ?_
  have hfin := H1.out.trans (hb2.mono hs1)
  have hv2 := HV.out
  exact ⟨_, rfl, (SliceR.stable (rdLin_stable _) hv2 (by (repeat' (first | (with_reducible exact Keeps.refl _ _) | (with_reducible refine Keeps.set ?_ ?_ _) | (with_reducible refine Keeps.alloc ?_ _) | (with_reducible refine Keeps.drew ?_) | (first | fail) | (simp; omega)))) (fun b h _ => (by have h' := h; (try simp at h'); omega))), by (repeat' (first | (with_reducible exact Below.refl _ _) | (with_reducible assumption) | (with_reducible refine Below.alloc ?_ ?_ _) | (with_reducible refine Below.drew ?_) | (with_reducible refine drewN_below ?_) | (with_reducible refine Below.setCell ?_ ?_ _) | go_size))⟩
end Go.Proofs.YtpndnbjpnajaaaaGreatDoor
