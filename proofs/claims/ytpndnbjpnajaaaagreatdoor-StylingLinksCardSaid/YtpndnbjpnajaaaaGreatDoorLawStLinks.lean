/- What styling does: styling.Toggle. -/
import Derived.Test.YtpndnbjpnajaaaaGreatDoorStyToggle
import Derived.Test.YtpndnbjpnajaaaaGreatDoorLineSplit
import Derived.Test.YtpndnbjpnajaaaaGreatDoorStMay
import Derived.Test.YtpndnbjpnajaaaaGreatDoorTells
import Derived.Test.YtpndnbjpnajaaaaGreatDoorDocPos
namespace Go.Proofs.YtpndnbjpnajaaaaGreatDoor
open Go.RowKit
open Go.Proofs.Qw
attribute [local go_sem] Oper.semAt_some
theorem set_st (w : World) (B : Nat) {x0 x1 x2 x3 x4 x5 x6 : Value} {t : TypeId} (h : w.heap[B]? = some (.cells #[x0, x1, x2, x3, x4, x5, x6] t)) (a b c d e f g : Value) :
    ∃ W, ((((((w.setCell ⟨B, 0, none⟩ a).setCell ⟨B, 1, none⟩ b).setCell ⟨B, 2, none⟩ c).setCell ⟨B, 3, none⟩ d).setCell ⟨B, 4, none⟩ e).setCell ⟨B, 5, none⟩ f).setCell ⟨B, 6, none⟩ g = W ∧
      W.heap[B]? = some (.cells #[a, b, c, d, e, f, g] t) ∧ (∀ n, n ≤ B → Below n w W) ∧ (∀ k, k ≠ B → W.heap[k]? = w.heap[k]?) ∧ W.heap.size = w.heap.size :=
  ⟨_, rfl, by simp [heap_set, putIn, h], fun n hn => (((((((Below.refl _ _).setCell hn _).setCell hn _).setCell hn _).setCell hn _).setCell hn _).setCell hn _).setCell hn _, fun k hk => by simp [heap_set, Ne.symm hk], by simp⟩
theorem slice_blk {α : Type} {t : TypeId} {k : Nat} {enc : α → List Value} (hk : ∀ x, (enc x).length = k) {w : World} {S : Nat → Prop} {b : Nat} (xs : List α) (h : w.heap[b]? = some (.cells (xs.map enc).flatten.toArray t)) (hS : S b) (hm : xs.length ≤ maxLen) {u : TypeId} :
    SliceR u k (rdOf enc) false w S (.slice (some ⟨b, 0, none⟩) xs.length xs.length) xs := by
  refine ⟨_, xs.length, rfl, Nat.le_refl _, hm, .inr ⟨b, 0, rfl, hS, (Array.getElem?_eq_some_iff.1 h).1, fun h => (by cases h), fun i x hx => ⟨enc x, hk x, rfl, fun j u hu => ?_⟩⟩⟩
  rw [cell_of_heap h, Nat.zero_add, List.getElem?_toArray]
  exact flatten_at (xs.map enc) i (enc x) j u (by simp; intro a _; exact hk a) (by rw [List.getElem?_map, hx]; rfl) hu
set_option maxRecDepth 100000 in
set_option maxHeartbeats 8000000 in
theorem styToggle_any (v : Value) (s : St) (t : Int) (w : World) (S : Nat → Prop) (h : LinsR w S v s.lines) (he : EnvT w) (hs : Small s.lines) (hf : Fits s.lines) :
    Calls Tryz.prog 29 #[stV v s, .int .i64 t] w (StSaid (toggleS s t) w) := by
  obtain ⟨W1, hW1, hB, hz, k0, k1, k2⟩ := st_val_st w v s (.int .i64 t) 3
  have HB : Hid (∀ W, Below W1.heap.size W1 W → W.heap[w.heap.size]? = some (.cells #[v, .int .i64 s.anc.line, .int .i64 s.anc.col, .int .i64 s.foc.line, .int .i64 s.foc.col, .int .i64 s.on, .int .i64 s.off] 26) ∧ W.heap[w.heap.size + 1]? = some (.cells #[.int .i64 t] 3) ∧ W.heap[w.heap.size + 2]? = some (.cells #[.slice none 0 0, .int .i64 0, .int .i64 0, .int .i64 0, .int .i64 0, .int .i64 0, .int .i64 0] 26)) := Lib.hid fun W hW => ⟨heap_below hW k0, heap_below hW k1, heap_below hW k2⟩
  have hs1 := hB.size
  have H1 := Lib.hid hB
  have hw0 : Below W1.heap.size W1 W1 := Below.refl _ _
  have HV : Hid (∀ W, Below W1.heap.size W1 W → LinsR W S v s.lines) := Lib.hid fun W hW => h.below (rdLin_stable _) (hB.trans (hW.mono hs1))
  have HE : Hid (∀ W, Below W1.heap.size W1 W → EnvT W) := Lib.hid fun W hW => (he.below hB).below hW
  have HM : Hid (∀ W, Below W1.heap.size W1 W → Calls Tryz.prog 27 #[stV v s] W fun e w' => e = .returned (.bool (mayS s)) ∧ Below W.heap.size W w') := Lib.hid fun W hW => stMay_any v s W S (HV.out W hW) (HE.out W hW) hs
  have HO : Hid (∀ W, Below W1.heap.size W1 W → Calls Tryz.prog 75 #[stV v s] W fun e w' => e = .returned (.bool (!decide (s.anc = s.foc))) ∧ Below W.heap.size W w') := Lib.hid fun W hW => styOpen_any v s W
  have HBi : Hid (∀ W, Below W1.heap.size W1 W → Calls Tryz.prog 19 #[stV v s] W fun e w' => e = .returned (.int .i64 (bitsS s)) ∧ Below W.heap.size W w') := Lib.hid fun W hW => styBits_any v s W S (HV.out W hW) (HE.out W hW) hs hf
  have HOw : Hid (∀ W, Below W1.heap.size W1 W → Calls Tryz.prog 41 #[stV v s] W fun e w' => ∃ v', e = .returned (stV v' s) ∧ DocR true w' (fun b => W.heap.size ≤ b) v' s.lines ∧ Below W.heap.size W w') := Lib.hid fun W hW => stOwn_any v s W S (HV.out W hW) hf
  have HCh : Hid (mayS s = true → ∀ W, Below W1.heap.size W1 W → Calls Tryz.prog 95 #[stV v s, .func (.func 96) #[] #[.pointer (some ⟨w.heap.size + 1, 0, none⟩)]] W (StSaid (staysS s (togD s t)) W)) := Lib.hid fun hm W hW => by
    have := styChanged_any v s 96 #[.pointer (some ⟨w.heap.size + 1, 0, none⟩)] (togD s t) W S (HV.out W hW) (HE.out W hW) hs (enters_of Tryz.func96 (by kernel_rfl) rfl)
      (fun _ X hX => styToggle1_any (w.heap.size + 1) v s.lines (spanS s).1 (spanS s).2 t X S (HV.out X (below_from hW hX)) (HE.out X (below_from hW hX)) hs hf (HB.out X (below_from hW hX)).2.1)
    unfold changedS at this
    rw [if_pos hm] at this
    exact this
  have HT : Hid (∀ W : World, Calls Tryz.prog 93 #[] W fun e w' => e = .returned (.agg #[.int .i64 1, .int .i64 2, .int .i64 4, .int .i64 8]) ∧ Below W.heap.size W w') := Lib.hid fun W => by
    go_enter Tryz.func93, Tryz.ntmps93
    go_wp2_with fail
    refine bodyPost_ret (results_cell_row rfl _ _ W.heap.size _ _ _ _ rfl (heap_new _ _ rfl) Tryz.underlying82 rfl (by kernel_rfl)) rfl ?_
    exact ⟨rfl, by (repeat' (first | (with_reducible exact Below.refl _ _) | (with_reducible assumption) | (with_reducible refine Below.alloc ?_ ?_ _) | (with_reducible refine Below.drew ?_) | (with_reducible refine drewN_below ?_) | (with_reducible refine Below.setCell ?_ ?_ _) | go_size))⟩
  have HR : Hid (toggleS s t = if mayS s = true ∧ four t = true then (if s.anc = s.foc then (togC s t, 0) else staysS s (togD s t)) else (noS, 1)) := Lib.hid rfl
  have HTC : Hid (togC s t = ⟨s.lines, s.anc, s.foc, bits .or .i64 (bits .andNot .i64 s.on t) (bits .andNot .i64 t (bitsS s)), bits .or .i64 (bits .andNot .i64 s.off t) (bits .andNot .i64 t (bits .andNot .i64 t (bitsS s)))⟩) := Lib.hid rfl
  obtain ⟨va, vc, rfl⟩ := h.slice
  clear h he hs hf hB
  obtain ⟨w2, hw2⟩ : ∃ w2, W1 = w2 := ⟨_, rfl⟩
  cases hm : mayS s
  · rw [hm] at HM HR
    have HR2 : Hid (toggleS s t = (noS, 1)) := Lib.hid (HR.out.trans (if_neg (by simp)))
    obtain ⟨p0, f0⟩ := blk k0
    clear HR HCh hm k0 k1 k2 hw2
    go_enter Tryz.func29, Tryz.ntmps29
    go_wp2_with (go_at_call 93; refine (HT.out _).mono ?_; rintro e w2 ⟨rfl, hst2⟩)
    have hb2 := below_from hw0 hst2
    obtain ⟨w3, hw3⟩ : ∃ w3, w2.alloc (.cells #[.int .i64 1, .int .i64 2, .int .i64 4, .int .i64 8] 82) = w3 := ⟨_, rfl⟩
    rw [hw3]
    have hb23 : Below w2.heap.size w2 w3 := hw3 ▸ below1 (Below.refl _ _) _
    have n3 : w3.heap[w2.heap.size]? = some (.cells #[.int .i64 1, .int .i64 2, .int .i64 4, .int .i64 8] 82) := hw3 ▸ heap_new _ _ rfl
    have hb3 := below_from hb2 hb23
    have HCt : Hid (∀ W, Below w3.heap.size w3 W → Calls Tryz.prog 94 #[.slice (some ⟨w2.heap.size, 0, none⟩) 4 4, .int .i64 t] W fun e w' => e = .returned (.bool (four t)) ∧ Below W.heap.size W w') := Lib.hid fun W hW => by
      have := containsInts_any _ [1, 2, 4, 8] t W (fun _ => True) (slice_blk (enc := encInt) (fun _ => rfl) [1, 2, 4, 8] (heap_below hW n3) trivial (by decide))
      rw [four_any] at this
      exact this.mono fun _ _ ⟨h1, h2⟩ => ⟨h1, h2 ▸ Below.refl _ _⟩
    clear hw3 n3 p0 f0
    refine wp_region_grew w3.heap.size (by kernel_rfl) (by kernel_rfl) ?_
    refine BigFrame.wpQuiet_want (by kernel_rfl) (fun K hK => ?_)
    refine quiet_val ?_ (fun W hW => ?_) (hK _ ?_)
    rotate_left 1
    · skip
      obtain ⟨p0, f0⟩ := blk (HB.out _ (below_from hb3 hW)).1
      obtain ⟨p1, f1⟩ := blk (HB.out _ (below_from hb3 hW)).2.1
      go_simp
      try rfl
    clear hK
    clear K
    try simp only [Act.put, List.setIfInBounds_toArray, List.set_cons_zero, List.set_cons_succ]
    refine BigFrame.wpQuiet_want (by kernel_rfl) (fun K hK => ?_)
    refine quiet_calls (f := ?_) (args := ?_) ?_ (fun W hW => ?_) (fun W hW => ?_) (hK _ ?_)
    rotate_left 3
    · go_simp
      constructor <;> rfl
    · refine (HM.out _ (below_from hb3 hW)).mono ?_
      rintro e W2 ⟨rfl, hbW⟩
      refine ⟨?_, below_from hW hbW⟩
      rfl
    clear hK
    clear K
    try simp only [Act.put, List.setIfInBounds_toArray, List.set_cons_zero, List.set_cons_succ]
    refine BigFrame.wpQuiet_want (by kernel_rfl) (fun K hK => ?_)
    refine quiet_val ?_ (fun W hW => ?_) (hK _ ?_)
    rotate_left 1
    · skip
      go_simp
      try rfl
    clear hK
    clear K
    try simp only [Act.put, List.setIfInBounds_toArray, List.set_cons_zero, List.set_cons_succ]
    refine BigFrame.wpQuiet_want (by kernel_rfl) (fun K hK => ?_)
    refine quiet_val ?_ (fun W hW => ?_) (hK _ ?_)
    rotate_left 1
    · skip
      go_simp
      try rfl
    clear hK
    clear K
    try simp only [Act.put, List.setIfInBounds_toArray, List.set_cons_zero, List.set_cons_succ]
    refine BigFrame.wpQuiet_skip (by kernel_rfl) ?_
    try simp only [Act.put, List.setIfInBounds_toArray, List.set_cons_zero, List.set_cons_succ]
    refine BigFrame.wpQuiet_skip (by kernel_rfl) ?_
    try simp only [Act.put, List.setIfInBounds_toArray, List.set_cons_zero, List.set_cons_succ]
    refine BigFrame.wpQuiet_skip (by kernel_rfl) ?_
    try simp only [Act.put, List.setIfInBounds_toArray, List.set_cons_zero, List.set_cons_succ]
    refine BigFrame.wpQuiet_skip (by kernel_rfl) ?_
    try simp only [Act.put, List.setIfInBounds_toArray, List.set_cons_zero, List.set_cons_succ]
    refine BigFrame.wpQuiet_want (by kernel_rfl) (fun K hK => ?_)
    refine quiet_val ?_ (fun W hW => ?_) (hK _ ?_)
    rotate_left 1
    · skip
      go_simp
      try rfl
    clear hK
    clear K
    try simp only [Act.put, List.setIfInBounds_toArray, List.set_cons_zero, List.set_cons_succ]
    refine BigFrame.wpQuiet_want (by kernel_rfl) (fun K hK => ?_)
    refine quiet_val ?_ (fun W hW => ?_) (hK _ ?_)
    rotate_left 1
    · skip
      go_simp
      try rfl
    clear hK
    clear K
    try simp only [Act.put, List.setIfInBounds_toArray, List.set_cons_zero, List.set_cons_succ]
    refine wpQuiet_nil (fun X6 hstX6 => ?_)
    have hcX6 := below_from hb3 hstX6
    obtain ⟨p2, f2⟩ := blk (HB.out _ hcX6).2.2
    go_wp2_with fail
    refine bodyPost_ret (results_st_e rfl _ _ (w.heap.size + 2) (.slice none 0 0) (.int .i64 0) (.int .i64 0) (.int .i64 0) (.int .i64 0) (.int .i64 0) (.int .i64 0) (.int .i64 1) rfl rfl (by simp [heap_set, putIn, (HB.out _ hcX6).2.2])) rfl ?_
    unfold StSaid
    rw [HR2.out]
    have hfin := H1.out.trans (hcX6.mono hs1)
    exact ⟨_, rfl, SliceR.nil _ _ _ _ _ _, by (repeat' (first | (with_reducible exact Below.refl _ _) | (with_reducible assumption) | (with_reducible refine Below.alloc ?_ ?_ _) | (with_reducible refine Below.drew ?_) | (with_reducible refine drewN_below ?_) | (with_reducible refine Below.setCell ?_ ?_ _) | go_size))⟩
  · have HCh2 := Lib.hid (HCh.out hm)
    rw [hm] at HM HR
    clear HCh hm hw2
    cases hfo : four t
    · rw [hfo] at HR
      have HF := Lib.hid hfo
      have HR2 : Hid (toggleS s t = (noS, 1)) := Lib.hid (HR.out.trans (if_neg (by simp)))
      obtain ⟨p0, f0⟩ := blk k0
      clear HR HCh2 hfo k0 k1 k2
      go_enter Tryz.func29, Tryz.ntmps29
      go_wp2_with (go_at_call 93; refine (HT.out _).mono ?_; rintro e w2 ⟨rfl, hst2⟩)
      have hb2 := below_from hw0 hst2
      obtain ⟨w3, hw3⟩ : ∃ w3, w2.alloc (.cells #[.int .i64 1, .int .i64 2, .int .i64 4, .int .i64 8] 82) = w3 := ⟨_, rfl⟩
      rw [hw3]
      have hb23 : Below w2.heap.size w2 w3 := hw3 ▸ below1 (Below.refl _ _) _
      have n3 : w3.heap[w2.heap.size]? = some (.cells #[.int .i64 1, .int .i64 2, .int .i64 4, .int .i64 8] 82) := hw3 ▸ heap_new _ _ rfl
      have hb3 := below_from hb2 hb23
      have HCt : Hid (∀ W, Below w3.heap.size w3 W → Calls Tryz.prog 94 #[.slice (some ⟨w2.heap.size, 0, none⟩) 4 4, .int .i64 t] W fun e w' => e = .returned (.bool (four t)) ∧ Below W.heap.size W w') := Lib.hid fun W hW => by
        have := containsInts_any _ [1, 2, 4, 8] t W (fun _ => True) (slice_blk (enc := encInt) (fun _ => rfl) [1, 2, 4, 8] (heap_below hW n3) trivial (by decide))
        rw [four_any] at this
        exact this.mono fun _ _ ⟨h1, h2⟩ => ⟨h1, h2 ▸ Below.refl _ _⟩
      clear hw3 n3 p0 f0
      rw [HF.out] at HCt
      refine wp_region_grew w3.heap.size (by kernel_rfl) (by kernel_rfl) ?_
      refine BigFrame.wpQuiet_want (by kernel_rfl) (fun K hK => ?_)
      refine quiet_val ?_ (fun W hW => ?_) (hK _ ?_)
      rotate_left 1
      · skip
        obtain ⟨p0, f0⟩ := blk (HB.out _ (below_from hb3 hW)).1
        obtain ⟨p1, f1⟩ := blk (HB.out _ (below_from hb3 hW)).2.1
        go_simp
        try rfl
      clear hK
      clear K
      try simp only [Act.put, List.setIfInBounds_toArray, List.set_cons_zero, List.set_cons_succ]
      refine BigFrame.wpQuiet_want (by kernel_rfl) (fun K hK => ?_)
      refine quiet_calls (f := ?_) (args := ?_) ?_ (fun W hW => ?_) (fun W hW => ?_) (hK _ ?_)
      rotate_left 3
      · go_simp
        constructor <;> rfl
      · refine (HM.out _ (below_from hb3 hW)).mono ?_
        rintro e W2 ⟨rfl, hbW⟩
        refine ⟨?_, below_from hW hbW⟩
        rfl
      clear hK
      clear K
      try simp only [Act.put, List.setIfInBounds_toArray, List.set_cons_zero, List.set_cons_succ]
      refine BigFrame.wpQuiet_want (by kernel_rfl) (fun K hK => ?_)
      refine quiet_val ?_ (fun W hW => ?_) (hK _ ?_)
      rotate_left 1
      · skip
        go_simp
        try rfl
      clear hK
      clear K
      try simp only [Act.put, List.setIfInBounds_toArray, List.set_cons_zero, List.set_cons_succ]
      refine BigFrame.wpQuiet_want (by kernel_rfl) (fun K hK => ?_)
      refine quiet_val ?_ (fun W hW => ?_) (hK _ ?_)
      rotate_left 1
      · skip
        go_simp
        try rfl
      clear hK
      clear K
      try simp only [Act.put, List.setIfInBounds_toArray, List.set_cons_zero, List.set_cons_succ]
      refine BigFrame.wpQuiet_want (by kernel_rfl) (fun K hK => ?_)
      refine quiet_val ?_ (fun W hW => ?_) (hK _ ?_)
      rotate_left 1
      · skip
        go_simp
        try rfl
      clear hK
      clear K
      try simp only [Act.put, List.setIfInBounds_toArray, List.set_cons_zero, List.set_cons_succ]
      refine BigFrame.wpQuiet_want (by kernel_rfl) (fun K hK => ?_)
      refine quiet_val ?_ (fun W hW => ?_) (hK _ ?_)
      rotate_left 1
      · skip
        obtain ⟨p0, f0⟩ := blk (HB.out _ (below_from hb3 hW)).1
        obtain ⟨p1, f1⟩ := blk (HB.out _ (below_from hb3 hW)).2.1
        go_simp
        try rfl
      clear hK
      clear K
      try simp only [Act.put, List.setIfInBounds_toArray, List.set_cons_zero, List.set_cons_succ]
      refine BigFrame.wpQuiet_want (by kernel_rfl) (fun K hK => ?_)
      refine quiet_calls (f := ?_) (args := ?_) ?_ (fun W hW => ?_) (fun W hW => ?_) (hK _ ?_)
      rotate_left 3
      · go_simp
        constructor <;> rfl
      · refine (HCt.out _ hW).mono ?_
        rintro e W2 ⟨rfl, hbW⟩
        refine ⟨?_, below_from hW hbW⟩
        rfl
      clear hK
      clear K
      try simp only [Act.put, List.setIfInBounds_toArray, List.set_cons_zero, List.set_cons_succ]
      refine BigFrame.wpQuiet_want (by kernel_rfl) (fun K hK => ?_)
      refine quiet_val ?_ (fun W hW => ?_) (hK _ ?_)
      rotate_left 1
      · skip
        go_simp
        try rfl
      clear hK
      clear K
      try simp only [Act.put, List.setIfInBounds_toArray, List.set_cons_zero, List.set_cons_succ]
      refine BigFrame.wpQuiet_want (by kernel_rfl) (fun K hK => ?_)
      refine quiet_val ?_ (fun W hW => ?_) (hK _ ?_)
      rotate_left 1
      · skip
        go_simp
        try rfl
      clear hK
      clear K
      try simp only [Act.put, List.setIfInBounds_toArray, List.set_cons_zero, List.set_cons_succ]
      refine BigFrame.wpQuiet_want (by kernel_rfl) (fun K hK => ?_)
      refine quiet_val ?_ (fun W hW => ?_) (hK _ ?_)
      rotate_left 1
      · skip
        go_simp
        try rfl
      clear hK
      clear K
      try simp only [Act.put, List.setIfInBounds_toArray, List.set_cons_zero, List.set_cons_succ]
      refine wpQuiet_nil (fun X6 hstX6 => ?_)
      have hcX6 := below_from hb3 hstX6
      obtain ⟨p2, f2⟩ := blk (HB.out _ hcX6).2.2
      go_wp2_with fail
      refine bodyPost_ret (results_st_e rfl _ _ (w.heap.size + 2) (.slice none 0 0) (.int .i64 0) (.int .i64 0) (.int .i64 0) (.int .i64 0) (.int .i64 0) (.int .i64 0) (.int .i64 1) rfl rfl (by simp [heap_set, putIn, (HB.out _ hcX6).2.2])) rfl ?_
      unfold StSaid
      rw [HR2.out]
      have hfin := H1.out.trans (hcX6.mono hs1)
      exact ⟨_, rfl, SliceR.nil _ _ _ _ _ _, by (repeat' (first | (with_reducible exact Below.refl _ _) | (with_reducible assumption) | (with_reducible refine Below.alloc ?_ ?_ _) | (with_reducible refine Below.drew ?_) | (with_reducible refine drewN_below ?_) | (with_reducible refine Below.setCell ?_ ?_ _) | go_size))⟩
    · rw [hfo] at HR
      have HF := Lib.hid hfo
      rw [if_pos ⟨rfl, rfl⟩] at HR
      by_cases hc : s.anc = s.foc
      · have HR2 : Hid (toggleS s t = (togC s t, 0)) := Lib.hid (HR.out.trans (if_pos hc))
        rw [decide_eq_true hc] at HO
        obtain ⟨p0, f0⟩ := blk k0
        obtain ⟨r, hr⟩ : ∃ r, bitsS s = r := ⟨_, rfl⟩
        rw [hr] at HBi HTC
        clear HR HCh2 hfo hc hr k0 k1 k2
        go_enter Tryz.func29, Tryz.ntmps29
        go_wp2_with (go_at_call 93; refine (HT.out _).mono ?_; rintro e w2 ⟨rfl, hst2⟩)
        have hb2 := below_from hw0 hst2
        obtain ⟨w3, hw3⟩ : ∃ w3, w2.alloc (.cells #[.int .i64 1, .int .i64 2, .int .i64 4, .int .i64 8] 82) = w3 := ⟨_, rfl⟩
        rw [hw3]
        have hb23 : Below w2.heap.size w2 w3 := hw3 ▸ below1 (Below.refl _ _) _
        have n3 : w3.heap[w2.heap.size]? = some (.cells #[.int .i64 1, .int .i64 2, .int .i64 4, .int .i64 8] 82) := hw3 ▸ heap_new _ _ rfl
        have hb3 := below_from hb2 hb23
        have HCt : Hid (∀ W, Below w3.heap.size w3 W → Calls Tryz.prog 94 #[.slice (some ⟨w2.heap.size, 0, none⟩) 4 4, .int .i64 t] W fun e w' => e = .returned (.bool (four t)) ∧ Below W.heap.size W w') := Lib.hid fun W hW => by
          have := containsInts_any _ [1, 2, 4, 8] t W (fun _ => True) (slice_blk (enc := encInt) (fun _ => rfl) [1, 2, 4, 8] (heap_below hW n3) trivial (by decide))
          rw [four_any] at this
          exact this.mono fun _ _ ⟨h1, h2⟩ => ⟨h1, h2 ▸ Below.refl _ _⟩
        clear hw3 n3 p0 f0
        rw [HF.out] at HCt
        refine wp_region_grew w3.heap.size (by kernel_rfl) (by kernel_rfl) ?_
        refine BigFrame.wpQuiet_want (by kernel_rfl) (fun K hK => ?_)
        refine quiet_val ?_ (fun W hW => ?_) (hK _ ?_)
        rotate_left 1
        · skip
          obtain ⟨p0, f0⟩ := blk (HB.out _ (below_from hb3 hW)).1
          obtain ⟨p1, f1⟩ := blk (HB.out _ (below_from hb3 hW)).2.1
          go_simp
          try rfl
        clear hK
        clear K
        try simp only [Act.put, List.setIfInBounds_toArray, List.set_cons_zero, List.set_cons_succ]
        refine BigFrame.wpQuiet_want (by kernel_rfl) (fun K hK => ?_)
        refine quiet_calls (f := ?_) (args := ?_) ?_ (fun W hW => ?_) (fun W hW => ?_) (hK _ ?_)
        rotate_left 3
        · go_simp
          constructor <;> rfl
        · refine (HM.out _ (below_from hb3 hW)).mono ?_
          rintro e W2 ⟨rfl, hbW⟩
          refine ⟨?_, below_from hW hbW⟩
          rfl
        clear hK
        clear K
        try simp only [Act.put, List.setIfInBounds_toArray, List.set_cons_zero, List.set_cons_succ]
        refine BigFrame.wpQuiet_want (by kernel_rfl) (fun K hK => ?_)
        refine quiet_val ?_ (fun W hW => ?_) (hK _ ?_)
        rotate_left 1
        · skip
          go_simp
          try rfl
        clear hK
        clear K
        try simp only [Act.put, List.setIfInBounds_toArray, List.set_cons_zero, List.set_cons_succ]
        refine BigFrame.wpQuiet_want (by kernel_rfl) (fun K hK => ?_)
        refine quiet_val ?_ (fun W hW => ?_) (hK _ ?_)
        rotate_left 1
        · skip
          go_simp
          try rfl
        clear hK
        clear K
        try simp only [Act.put, List.setIfInBounds_toArray, List.set_cons_zero, List.set_cons_succ]
        refine BigFrame.wpQuiet_want (by kernel_rfl) (fun K hK => ?_)
        refine quiet_val ?_ (fun W hW => ?_) (hK _ ?_)
        rotate_left 1
        · skip
          go_simp
          try rfl
        clear hK
        clear K
        try simp only [Act.put, List.setIfInBounds_toArray, List.set_cons_zero, List.set_cons_succ]
        refine BigFrame.wpQuiet_want (by kernel_rfl) (fun K hK => ?_)
        refine quiet_val ?_ (fun W hW => ?_) (hK _ ?_)
        rotate_left 1
        · skip
          obtain ⟨p0, f0⟩ := blk (HB.out _ (below_from hb3 hW)).1
          obtain ⟨p1, f1⟩ := blk (HB.out _ (below_from hb3 hW)).2.1
          go_simp
          try rfl
        clear hK
        clear K
        try simp only [Act.put, List.setIfInBounds_toArray, List.set_cons_zero, List.set_cons_succ]
        refine BigFrame.wpQuiet_want (by kernel_rfl) (fun K hK => ?_)
        refine quiet_calls (f := ?_) (args := ?_) ?_ (fun W hW => ?_) (fun W hW => ?_) (hK _ ?_)
        rotate_left 3
        · go_simp
          constructor <;> rfl
        · refine (HCt.out _ hW).mono ?_
          rintro e W2 ⟨rfl, hbW⟩
          refine ⟨?_, below_from hW hbW⟩
          rfl
        clear hK
        clear K
        try simp only [Act.put, List.setIfInBounds_toArray, List.set_cons_zero, List.set_cons_succ]
        refine BigFrame.wpQuiet_want (by kernel_rfl) (fun K hK => ?_)
        refine quiet_val ?_ (fun W hW => ?_) (hK _ ?_)
        rotate_left 1
        · skip
          go_simp
          try rfl
        clear hK
        clear K
        try simp only [Act.put, List.setIfInBounds_toArray, List.set_cons_zero, List.set_cons_succ]
        refine BigFrame.wpQuiet_want (by kernel_rfl) (fun K hK => ?_)
        refine quiet_val ?_ (fun W hW => ?_) (hK _ ?_)
        rotate_left 1
        · skip
          go_simp
          try rfl
        clear hK
        clear K
        try simp only [Act.put, List.setIfInBounds_toArray, List.set_cons_zero, List.set_cons_succ]
        refine BigFrame.wpQuiet_want (by kernel_rfl) (fun K hK => ?_)
        refine quiet_val ?_ (fun W hW => ?_) (hK _ ?_)
        rotate_left 1
        · skip
          go_simp
          try rfl
        clear hK
        clear K
        try simp only [Act.put, List.setIfInBounds_toArray, List.set_cons_zero, List.set_cons_succ]
        refine wpQuiet_nil (fun X6 hstX6 => ?_)
        have hcX6 := below_from hb3 hstX6
        obtain ⟨p0, f0⟩ := blk (HB.out _ hcX6).1
        go_wp2_with (go_at_call 75; refine (HO.out _ hcX6).mono ?_; rintro e w7 ⟨rfl, hst7⟩; have hb7 := below_from hcX6 hst7; skip)
        clear p0 f0
        refine wp_region_grew w7.heap.size (by kernel_rfl) (by kernel_rfl) ?_
        refine BigFrame.wpQuiet_want (by kernel_rfl) (fun K hK => ?_)
        refine quiet_val ?_ (fun W hW => ?_) (hK _ ?_)
        rotate_left 1
        · skip
          obtain ⟨p0, f0⟩ := blk (HB.out _ (below_from hb7 hW)).1
          obtain ⟨p1, f1⟩ := blk (HB.out _ (below_from hb7 hW)).2.1
          go_simp
          try rfl
        clear hK
        clear K
        try simp only [Act.put, List.setIfInBounds_toArray, List.set_cons_zero, List.set_cons_succ]
        refine BigFrame.wpQuiet_want (by kernel_rfl) (fun K hK => ?_)
        refine quiet_val ?_ (fun W hW => ?_) (hK _ ?_)
        rotate_left 1
        · skip
          obtain ⟨p0, f0⟩ := blk (HB.out _ (below_from hb7 hW)).1
          obtain ⟨p1, f1⟩ := blk (HB.out _ (below_from hb7 hW)).2.1
          go_simp
          try rfl
        clear hK
        clear K
        try simp only [Act.put, List.setIfInBounds_toArray, List.set_cons_zero, List.set_cons_succ]
        refine BigFrame.wpQuiet_want (by kernel_rfl) (fun K hK => ?_)
        refine quiet_calls (f := ?_) (args := ?_) ?_ (fun W hW => ?_) (fun W hW => ?_) (hK _ ?_)
        rotate_left 3
        · go_simp
          constructor <;> rfl
        · refine (HBi.out _ (below_from hb7 hW)).mono ?_
          rintro e W2 ⟨rfl, hbW⟩
          refine ⟨?_, below_from hW hbW⟩
          rfl
        clear hK
        clear K
        try simp only [Act.put, List.setIfInBounds_toArray, List.set_cons_zero, List.set_cons_succ]
        refine BigFrame.wpQuiet_want (by kernel_rfl) (fun K hK => ?_)
        refine quiet_val ?_ (fun W hW => ?_) (hK _ ?_)
        rotate_left 1
        · skip
          go_simp
          try rfl
        clear hK
        clear K
        try simp only [Act.put, List.setIfInBounds_toArray, List.set_cons_zero, List.set_cons_succ]
        refine BigFrame.wpQuiet_want (by kernel_rfl) (fun K hK => ?_)
        refine quiet_val ?_ (fun W hW => ?_) (hK _ ?_)
        rotate_left 1
        · skip
          go_simp
          try rfl
        clear hK
        clear K
        try simp only [Act.put, List.setIfInBounds_toArray, List.set_cons_zero, List.set_cons_succ]
        refine wpQuiet_nil (fun X8 hstX8 => ?_)
        have hcX8 := below_from hb7 hstX8
        obtain ⟨p0, f0⟩ := blk (HB.out _ hcX8).1
        go_wp2_with (go_at_call 41; refine (HOw.out _ hcX8).mono ?_; rintro e w9 ⟨v9, rfl, hv9, hst9⟩; obtain ⟨a9, c9, rfl⟩ := hv9.slice; have hb9 := below_from hcX8 hst9; have HV9 := Lib.hid hv9; clear hv9; obtain ⟨q0, g0⟩ := blk (HB.out _ hb9).1)
        obtain ⟨w10, hw10, n10, b10, o10, z10⟩ := set_st w9 w.heap.size (HB.out _ hb9).1 (.slice a9 s.lines.length c9) (.int .i64 s.anc.line) (.int .i64 s.anc.col) (.int .i64 s.foc.line) (.int .i64 s.foc.col) (.int .i64 s.on) (.int .i64 s.off)
        rw [hw10]
        have HX10 := Lib.hid (And.intro n10 (And.intro ((o10 (w.heap.size + 1) (by omega)).trans (HB.out _ hb9).2.1) (And.intro ((o10 (w.heap.size + 2) (by omega)).trans (HB.out _ hb9).2.2) (And.intro b10 (And.intro o10 z10)))))
        clear hw10 q0 g0 n10 b10 o10 z10 p0 f0
        obtain ⟨p0, f0⟩ := blk HX10.out.1
        obtain ⟨p1, f1⟩ := blk HX10.out.2.1
        obtain ⟨p2, f2⟩ := blk HX10.out.2.2.1
        go_region
        go_wp2_with fail
        refine bodyPost_ret (results_st_e rfl _ _ (w.heap.size + 2) (.slice a9 s.lines.length c9) (.int .i64 s.anc.line) (.int .i64 s.anc.col) (.int .i64 s.foc.line) (.int .i64 s.foc.col) (.int .i64 (bits .or .i64 (bits .andNot .i64 s.on t) (bits .andNot .i64 t r))) (.int .i64 (bits .or .i64 (bits .andNot .i64 s.off t) (bits .andNot .i64 t (bits .andNot .i64 t r)))) (.int .i64 0) rfl rfl (by rw [drew_heap]; simp [heap_set, putIn, HX10.out.2.2.1])) rfl ?_
        unfold StSaid
        rw [HR2.out, HTC.out]
        have hb10 : Below w.heap.size w w10 := (H1.out.trans (hb9.mono hs1)).trans (HX10.out.2.2.2.1 _ (Nat.le_refl _))
        have hv10 : DocR true w10 (fun b => w.heap.size + 3 ≤ b) (.slice a9 s.lines.length c9) s.lines := SliceR.stable (rdLin_stable true) HV9.out ⟨Nat.le_of_eq HX10.out.2.2.2.2.2.symm, fun b hb _ => HX10.out.2.2.2.2.1 b (fun e => by have hb : X8.heap.size ≤ b := hb; have := hcX8.size; omega)⟩ (fun b hb _ => by have hb : X8.heap.size ≤ b := hb; have := hcX8.size; show w.heap.size + 3 ≤ b; omega)
        exact ⟨_, rfl, (SliceR.stable (rdLin_stable _) hv10 (by (repeat' (first | (with_reducible exact Keeps.refl _ _) | (with_reducible refine Keeps.set ?_ ?_ _) | (with_reducible refine Keeps.alloc ?_ _) | (with_reducible refine Keeps.drew ?_) | (first | (simp; done)) | (simp; omega)))) (fun b h _ => (by have h' := h; (try simp at h'); omega))), by (repeat' (first | (with_reducible exact Below.refl _ _) | (with_reducible assumption) | (with_reducible refine Below.alloc ?_ ?_ _) | (with_reducible refine Below.drew ?_) | (with_reducible refine drewN_below ?_) | (with_reducible refine Below.setCell ?_ ?_ _) | go_size))⟩
      · have HR2 : Hid (toggleS s t = staysS s (togD s t)) := Lib.hid (HR.out.trans (if_neg hc))
        rw [decide_eq_false hc] at HO
        obtain ⟨X, hX⟩ : ∃ X, staysS s (togD s t) = X := ⟨_, rfl⟩
        rw [hX] at HCh2 HR2
        obtain ⟨p0, f0⟩ := blk k0
        clear HR hfo hc hX k0 k1 k2
        go_enter Tryz.func29, Tryz.ntmps29
        go_wp2_with (go_at_call 93; refine (HT.out _).mono ?_; rintro e w2 ⟨rfl, hst2⟩)
        have hb2 := below_from hw0 hst2
        obtain ⟨w3, hw3⟩ : ∃ w3, w2.alloc (.cells #[.int .i64 1, .int .i64 2, .int .i64 4, .int .i64 8] 82) = w3 := ⟨_, rfl⟩
        rw [hw3]
        have hb23 : Below w2.heap.size w2 w3 := hw3 ▸ below1 (Below.refl _ _) _
        have n3 : w3.heap[w2.heap.size]? = some (.cells #[.int .i64 1, .int .i64 2, .int .i64 4, .int .i64 8] 82) := hw3 ▸ heap_new _ _ rfl
        have hb3 := below_from hb2 hb23
        have HCt : Hid (∀ W, Below w3.heap.size w3 W → Calls Tryz.prog 94 #[.slice (some ⟨w2.heap.size, 0, none⟩) 4 4, .int .i64 t] W fun e w' => e = .returned (.bool (four t)) ∧ Below W.heap.size W w') := Lib.hid fun W hW => by
          have := containsInts_any _ [1, 2, 4, 8] t W (fun _ => True) (slice_blk (enc := encInt) (fun _ => rfl) [1, 2, 4, 8] (heap_below hW n3) trivial (by decide))
          rw [four_any] at this
          exact this.mono fun _ _ ⟨h1, h2⟩ => ⟨h1, h2 ▸ Below.refl _ _⟩
        clear hw3 n3 p0 f0
        rw [HF.out] at HCt
        refine wp_region_grew w3.heap.size (by kernel_rfl) (by kernel_rfl) ?_
        refine BigFrame.wpQuiet_want (by kernel_rfl) (fun K hK => ?_)
        refine quiet_val ?_ (fun W hW => ?_) (hK _ ?_)
        rotate_left 1
        · skip
          obtain ⟨p0, f0⟩ := blk (HB.out _ (below_from hb3 hW)).1
          obtain ⟨p1, f1⟩ := blk (HB.out _ (below_from hb3 hW)).2.1
          go_simp
          try rfl
        clear hK
        clear K
        try simp only [Act.put, List.setIfInBounds_toArray, List.set_cons_zero, List.set_cons_succ]
        refine BigFrame.wpQuiet_want (by kernel_rfl) (fun K hK => ?_)
        refine quiet_calls (f := ?_) (args := ?_) ?_ (fun W hW => ?_) (fun W hW => ?_) (hK _ ?_)
        rotate_left 3
        · go_simp
          constructor <;> rfl
        · refine (HM.out _ (below_from hb3 hW)).mono ?_
          rintro e W2 ⟨rfl, hbW⟩
          refine ⟨?_, below_from hW hbW⟩
          rfl
        clear hK
        clear K
        try simp only [Act.put, List.setIfInBounds_toArray, List.set_cons_zero, List.set_cons_succ]
        refine BigFrame.wpQuiet_want (by kernel_rfl) (fun K hK => ?_)
        refine quiet_val ?_ (fun W hW => ?_) (hK _ ?_)
        rotate_left 1
        · skip
          go_simp
          try rfl
        clear hK
        clear K
        try simp only [Act.put, List.setIfInBounds_toArray, List.set_cons_zero, List.set_cons_succ]
        refine BigFrame.wpQuiet_want (by kernel_rfl) (fun K hK => ?_)
        refine quiet_val ?_ (fun W hW => ?_) (hK _ ?_)
        rotate_left 1
        · skip
          go_simp
          try rfl
        clear hK
        clear K
        try simp only [Act.put, List.setIfInBounds_toArray, List.set_cons_zero, List.set_cons_succ]
        refine BigFrame.wpQuiet_want (by kernel_rfl) (fun K hK => ?_)
        refine quiet_val ?_ (fun W hW => ?_) (hK _ ?_)
        rotate_left 1
        · skip
          go_simp
          try rfl
        clear hK
        clear K
        try simp only [Act.put, List.setIfInBounds_toArray, List.set_cons_zero, List.set_cons_succ]
        refine BigFrame.wpQuiet_want (by kernel_rfl) (fun K hK => ?_)
        refine quiet_val ?_ (fun W hW => ?_) (hK _ ?_)
        rotate_left 1
        · skip
          obtain ⟨p0, f0⟩ := blk (HB.out _ (below_from hb3 hW)).1
          obtain ⟨p1, f1⟩ := blk (HB.out _ (below_from hb3 hW)).2.1
          go_simp
          try rfl
        clear hK
        clear K
        try simp only [Act.put, List.setIfInBounds_toArray, List.set_cons_zero, List.set_cons_succ]
        refine BigFrame.wpQuiet_want (by kernel_rfl) (fun K hK => ?_)
        refine quiet_calls (f := ?_) (args := ?_) ?_ (fun W hW => ?_) (fun W hW => ?_) (hK _ ?_)
        rotate_left 3
        · go_simp
          constructor <;> rfl
        · refine (HCt.out _ hW).mono ?_
          rintro e W2 ⟨rfl, hbW⟩
          refine ⟨?_, below_from hW hbW⟩
          rfl
        clear hK
        clear K
        try simp only [Act.put, List.setIfInBounds_toArray, List.set_cons_zero, List.set_cons_succ]
        refine BigFrame.wpQuiet_want (by kernel_rfl) (fun K hK => ?_)
        refine quiet_val ?_ (fun W hW => ?_) (hK _ ?_)
        rotate_left 1
        · skip
          go_simp
          try rfl
        clear hK
        clear K
        try simp only [Act.put, List.setIfInBounds_toArray, List.set_cons_zero, List.set_cons_succ]
        refine BigFrame.wpQuiet_want (by kernel_rfl) (fun K hK => ?_)
        refine quiet_val ?_ (fun W hW => ?_) (hK _ ?_)
        rotate_left 1
        · skip
          go_simp
          try rfl
        clear hK
        clear K
        try simp only [Act.put, List.setIfInBounds_toArray, List.set_cons_zero, List.set_cons_succ]
        refine BigFrame.wpQuiet_want (by kernel_rfl) (fun K hK => ?_)
        refine quiet_val ?_ (fun W hW => ?_) (hK _ ?_)
        rotate_left 1
        · skip
          go_simp
          try rfl
        clear hK
        clear K
        try simp only [Act.put, List.setIfInBounds_toArray, List.set_cons_zero, List.set_cons_succ]
        refine wpQuiet_nil (fun X6 hstX6 => ?_)
        have hcX6 := below_from hb3 hstX6
        obtain ⟨p0, f0⟩ := blk (HB.out _ hcX6).1
        go_wp2_with (first
          | (go_at_call 75; refine (HO.out _ hcX6).mono ?_; rintro e w7 ⟨rfl, hst7⟩; have hb7 := below_from hcX6 hst7; obtain ⟨q0, g0⟩ := blk (HB.out _ hb7).1)
          | (go_at_call 95; refine (HCh2.out _ hb7).mono ?_; intro e w8 hsaid; obtain ⟨v8, rfl, hv8, hst8⟩ := hsaid; obtain ⟨a8, c8, rfl⟩ := hv8.slice; have hb8 := below_from hb7 hst8; have HV8 := Lib.hid hv8; clear hv8; obtain ⟨q2, g2⟩ := blk (HB.out _ hb8).2.2))
        refine bodyPost_ret (results_st_e rfl _ _ (w.heap.size + 2) (.slice a8 X.1.lines.length c8) (.int .i64 X.1.anc.line) (.int .i64 X.1.anc.col) (.int .i64 X.1.foc.line) (.int .i64 X.1.foc.col) (.int .i64 X.1.on) (.int .i64 X.1.off) (.int .i64 X.2) rfl rfl (by simp [heap_set, putIn, (HB.out _ hb8).2.2])) rfl ?_
        unfold StSaid
        rw [HR2.out]
        have hfin := H1.out.trans (hb8.mono hs1)
        have hv8 := HV8.out
        have hz7 := hb7.size
        exact ⟨_, rfl, (SliceR.stable (rdLin_stable _) hv8 (by (repeat' (first | (with_reducible exact Keeps.refl _ _) | (with_reducible refine Keeps.set ?_ ?_ _) | (with_reducible refine Keeps.alloc ?_ _) | (with_reducible refine Keeps.drew ?_) | (first | fail) | (simp; omega)))) (fun b h _ => (by have h' := h; (try simp at h'); omega))), by (repeat' (first | (with_reducible exact Below.refl _ _) | (with_reducible assumption) | (with_reducible refine Below.alloc ?_ ?_ _) | (with_reducible refine Below.drew ?_) | (with_reducible refine drewN_below ?_) | (with_reducible refine Below.setCell ?_ ?_ _) | go_size))⟩
end Go.Proofs.YtpndnbjpnajaaaaGreatDoor
namespace Go.Proofs.YtpndnbjpnajaaaaGreatDoor
open Go.RowKit
open Go.Proofs.Qw
attribute [local go_sem] Oper.semAt_some
theorem results_doc_e {fn : Func} {p u : Tmp} (h : fn.results = #[.cell p 22, .cell u 34]) (tmps : Array Value) (w : World) (a b : Addr) (x : Value) (y : Int) (hx : ∃ c n k, x = .slice c n k) (hp : tmps.getD p undef = .pointer (some a)) (hu : tmps.getD u undef = .pointer (some b)) (h1 : w.cell? a = some x) (h2 : w.cell? b = some (.int .i64 y)) :
    (results fn tmps).run Tryz.prog w = .ok (.tuple #[x, .int .i64 y]) w := by
  obtain ⟨c, n, k, rfl⟩ := hx
  simp only [results, h]
  simp at hp hu
  simp [go_sem, hp, hu, h1, h2]
def UI (w6 : World) (pre : List Cel) (W : World) : Prop := (∀ c ∈ pre, c.href = []) ∧ Below w6.heap.size w6 W ∧ w6.heap.size ≤ W.heap.size
theorem ui_own (w6 : World) : OwnFrom w6.heap.size (UI w6) := fun s X Y row ⟨h1, h2, h3⟩ hg hr => ⟨h1, ownFrom_below (Nat.le_refl _) (Nat.le_refl _) s X Y row h2 hg hr, ownFrom_size _ _ s X Y row h3 hg hr⟩
def UX (R : Doc × Int) (w : World) (Z : Nat) (c : Code) (pre : List Cel) (W : World) : Prop :=
  c = .ret ∧ (∃ z ∈ pre, z.href ≠ []) ∧ ∃ v, W.heap[w.heap.size + 3]? = some (.cells #[v] 22) ∧ W.heap[w.heap.size + 4]? = some (.cells #[.int .i64 R.2] 34) ∧ DocR true W (fun b => Z ≤ b) v R.1 ∧ Below w.heap.size w W
theorem ux_own {R : Doc × Int} {w : World} {Z B : Nat} (hB : w.heap.size ≤ B) (c : Code) : OwnFrom B (UX R w Z c) := fun s X Y row ⟨h0, h1, v, h2, h3, h4, h5⟩ hg hr =>
  ⟨h0, h1, v, blk_own B _ _ _ s X Y row h2 hg hr, blk_own B _ _ _ s X Y row h3 hg hr, doc_own (β := Unit) B _ _ (fun _ => R.1) () X Y row h4 hg hr, ownFrom_below (Nat.le_refl _) hB s X Y row h5 hg hr⟩
set_option maxRecDepth 200000 in
set_option maxHeartbeats 4000000 in
theorem styUnlink1_any (Bs : Nat) (v : Value) (s : St) (P Q : Ps) (w : World) (S : Nat → Prop) (h : LinsR w S v s.lines) (he : EnvT w) (hs : Small s.lines) (hf : Fits s.lines) (hm : isD s.lines s.anc = true) (hBs : w.heap[Bs]? = some (.cells #[v, .int .i64 s.anc.line, .int .i64 s.anc.col, .int .i64 s.foc.line, .int .i64 s.foc.col, .int .i64 s.on, .int .i64 s.off] 26)) :
    Calls Tryz.prog 107 #[v, posV P, posV Q, .pointer (some ⟨Bs, 0, none⟩)] w (DocSaid (unlinkL s) w) := by
  obtain ⟨W1, hW1⟩ : ∃ W1, ((((w.alloc (.cells #[v] 22)).alloc (.cells #[.int .i64 P.line, .int .i64 P.col] 24)).alloc (.cells #[.int .i64 Q.line, .int .i64 Q.col] 24)).alloc (.cells #[.slice none 0 0] 22)).alloc (.cells #[.int .i64 0] 34) = W1 := ⟨_, rfl⟩
  have hB : Below w.heap.size w W1 := hW1 ▸ below2 (below3 (Below.refl _ _) _ _ _) _ _
  have hz : w.heap.size + 5 = W1.heap.size := by rw [← hW1]; simp
  have k0 : W1.heap[w.heap.size]? = some (.cells #[v] 22) := hW1 ▸ heap_old _ _ (heap_old _ _ (heap_old _ _ (heap_old _ _ (heap_new _ _ rfl))))
  have k1 : W1.heap[w.heap.size + 1]? = some (.cells #[.int .i64 P.line, .int .i64 P.col] 24) := hW1 ▸ heap_old _ _ (heap_old _ _ (heap_old _ _ (heap_new _ _ (by simp))))
  have k3 : W1.heap[w.heap.size + 3]? = some (.cells #[.slice none 0 0] 22) := hW1 ▸ heap_old _ _ (heap_new _ _ (by simp))
  have k4 : W1.heap[w.heap.size + 4]? = some (.cells #[.int .i64 0] 34) := hW1 ▸ heap_new _ _ (by simp)
  have kS := heap_below hB hBs
  have HB : Hid (∀ W, Below W1.heap.size W1 W → W.heap[Bs]? = some (.cells #[v, .int .i64 s.anc.line, .int .i64 s.anc.col, .int .i64 s.foc.line, .int .i64 s.foc.col, .int .i64 s.on, .int .i64 s.off] 26) ∧ W.heap[w.heap.size]? = some (.cells #[v] 22) ∧ W.heap[w.heap.size + 1]? = some (.cells #[.int .i64 P.line, .int .i64 P.col] 24) ∧ W.heap[w.heap.size + 3]? = some (.cells #[.slice none 0 0] 22) ∧ W.heap[w.heap.size + 4]? = some (.cells #[.int .i64 0] 34)) := Lib.hid fun W hW => ⟨heap_below hW kS, heap_below hW k0, heap_below hW k1, heap_below hW k3, heap_below hW k4⟩
  have hs1 := hB.size
  have hBw := (Array.getElem?_eq_some_iff.1 hBs).1
  have H1 := Lib.hid hB
  have hw0 : Below W1.heap.size W1 W1 := Below.refl _ _
  have HV : Hid (∀ W, Below W1.heap.size W1 W → LinsR W S v s.lines) := Lib.hid fun W hW => h.below (rdLin_stable _) (hB.trans (hW.mono hs1))
  have HE : Hid (∀ W, Below W1.heap.size W1 W → EnvT W) := Lib.hid fun W hW => (he.below hB).below hW
  have HR : Hid (unlinkL s = if (cellsD s.lines (handS s).1 (handS s).2).any (fun c => decide (c.href ≠ [])) = true then linkD [] s.lines (handS s).1 (handS s).2 else ([], 7)) := Lib.hid rfl
  have HVF := Lib.hid (And.intro hs hf)
  have HVw := Lib.hid (And.intro h he)
  have HH : Hid (∀ W, Below W1.heap.size W1 W → Calls Tryz.prog 84 #[stV v s] W fun e w' => e = .returned (.tuple #[.agg #[.int .i64 (handS s).1.line, .int .i64 (handS s).1.col], .agg #[.int .i64 (handS s).2.line, .int .i64 (handS s).2.col]]) ∧ Below W.heap.size W w') := Lib.hid fun W hW => styHand_any v s W S (HV.out W hW) hf hm
  obtain ⟨A, B, hAB⟩ : ∃ A B, handS s = (A, B) := ⟨_, _, rfl⟩
  rw [hAB] at HH HR
  simp only at HH HR
  have HLk : Hid (∀ W, Below W1.heap.size W1 W → Calls Tryz.prog 100 #[v, posV A, posV B, .string ⟨#[]⟩] W (DocSaid (linkD [] s.lines A B) W)) := Lib.hid fun W hW => docLink_any v s.lines A B [] W S (HV.out W hW) (HE.out W hW) hs hf (by simp)
  have HP : Hid (∀ p : Ps, posV p = .agg #[.int .i64 p.line, .int .i64 p.col]) := Lib.hid fun _ => rfl
  rw [HP.out, HP.out] at HLk ⊢
  have HL : Hid ((cellsD s.lines A B).length ≤ 100000) := Lib.hid (Nat.le_trans (cellsD_size _ _ _) hs.1)
  obtain ⟨X, er, hX⟩ : ∃ X er, linkD [] s.lines A B = (X, er) := ⟨_, _, rfl⟩
  rw [hX] at HLk HR
  obtain ⟨p0, f0⟩ := blk k0
  obtain ⟨p1, f1⟩ := blk k3
  obtain ⟨p2, f2⟩ := blk k4
  obtain ⟨p3, f3⟩ := blk kS
  obtain ⟨va, vc, rfl⟩ := h.slice
  clear h he hs hf hm hAB hX k0 k1 k3 k4 kS hBs hB
  refine (callsIn_wide (n := 6)).1 ?_
  refine callsIn_of_wp_marks Tryz.func107 rfl trivial ?_ rfl
  simp only [Tryz.ntmps107, List.size_toArray, List.length_cons, List.length_nil, Nat.reduceAdd, Nat.reduceSub, Array.replicate_succ, Array.replicate_zero, List.push_toArray, List.append_toArray, List.nil_append, List.cons_append]
  have hwf : ∀ f, Fence.wide.fn f := fun _ => trivial
  have hwd : Fence.wide.depth = none := rfl
  gi_wp2_with (first
    | (gi_at_call 84; refine (callsIn_wide.2 (HH.out _ hw0)).mono ?_; rintro e w2 ⟨rfl, hst2⟩; have hb2 := below_from hw0 hst2; obtain ⟨q0, g0⟩ := blk (HB.out _ hb2).2.1; have hz2 := hb2.size; have r0 := on2 (HB.out _ hb2).2.1)
    | (gi_at_call 77; refine (callsIn_wide.2 (selected_any _ _ _ A B _)).mono ?_; rintro e w5 ⟨rfl, rfl⟩))
  obtain ⟨w6, hw6⟩ : ∃ w6, ((((w2.alloc (.cells #[.int .i64 A.line, .int .i64 A.col] 24)).alloc (.cells #[.int .i64 B.line, .int .i64 B.col] 24)).alloc (.cells #[.slice va s.lines.length vc] 22)).alloc (.cells #[.int .i64 A.line, .int .i64 A.col] 24)).alloc (.cells #[.int .i64 B.line, .int .i64 B.col] 24) = w6 := ⟨_, rfl⟩
  rw [hw6]
  have hb26 : Below w2.heap.size w2 w6 := hw6 ▸ below3 (below2 (Below.refl _ _) _ _) _ _ _
  have hz6 : w6.heap.size = w2.heap.size + 5 := by rw [← hw6]; simp
  have m0 : w6.heap[w2.heap.size]? = some (.cells #[.int .i64 A.line, .int .i64 A.col] 24) := hw6 ▸ heap_old _ _ (heap_old _ _ (heap_old _ _ (heap_old _ _ (heap_new _ _ rfl))))
  have m1 : w6.heap[w2.heap.size + 1]? = some (.cells #[.int .i64 B.line, .int .i64 B.col] 24) := hw6 ▸ heap_old _ _ (heap_old _ _ (heap_old _ _ (heap_new _ _ (by simp))))
  have m2 : w6.heap[w2.heap.size + 1 + 1]? = some (.cells #[.slice va s.lines.length vc] 22) := hw6 ▸ heap_old _ _ (heap_old _ _ (heap_new _ _ (by simp)))
  have m3 : w6.heap[w2.heap.size + 1 + 1 + 1]? = some (.cells #[.int .i64 A.line, .int .i64 A.col] 24) := hw6 ▸ heap_old _ _ (heap_new _ _ (by simp))
  have m4 : w6.heap[w2.heap.size + 1 + 1 + 2]? = some (.cells #[.int .i64 B.line, .int .i64 B.col] 24) := hw6 ▸ heap_new _ _ (by simp)
  have hb6 := below_from hb2 hb26
  have hbw : Below w.heap.size w w6 := H1.out.trans (hb6.mono hs1)
  have N0 := Lib.hid (And.intro m0 (And.intro m1 (And.intro m2 (And.intro m3 m4))))
  have hUI : UI w6 [] w6 := ⟨fun _ h => (by cases h), Below.refl _ _, Nat.le_refl _⟩
  clear hw6 m0 m1 m2 m3 m4 q0 g0 r0 p0 f0 p1 f1 p2 f2 p3 f3 hW1
  refine rangeFunc_boxD rfl (by omega) (gf := 148) (lb := #[.pointer (some ⟨w2.heap.size + 1 + 1, 0, none⟩), .pointer (some ⟨w2.heap.size + 1 + 1 + 1, 0, none⟩), .pointer (some ⟨w2.heap.size + 1 + 1 + 2, 0, none⟩)]) rfl trivial (enters_of Tryz.func148 (by kernel_rfl) rfl)
    (encs := fun c : Cel => #[celV c]) (n₀ := w.heap.size) (base := w6.heap.size) (Bs := w.heap.size + 1) (S := fun ys => ys = cellsD s.lines A B) (Sp := fun pre => pre <+: cellsD s.lines A B) (N := 200000) (w0 := w6) ?seq (by omega) (by omega) (Below.refl _ _) (fun _ => rfl)
    (UI w6) (UX (X, er) w w2.heap.size) (ui_own w6) (ux_own (by omega)) hUI (fun _ _ h => h.2.2)
    (fun x => #[.int .i32 x.r, .int .i64 x.bits, .string ⟨x.href.toArray⟩]) 44 ?act ?assign ?body ?done ?stop
  case seq =>
    intro l J Jx W hW hJ _ hY h0
    have hzW := hW.size
    have hb1 := below_from hb6 hW
    exact selected1_in 5 l (w2.heap.size + 1 + 1) (w2.heap.size + 1 + 1 + 1) (w2.heap.size + 1 + 1 + 2) w6.heap.size (w.heap.size + 1) (.slice va s.lines.length vc) s.lines A B S J Jx w W HVw.out.1 HVw.out.2 HVF.out.1 HVF.out.2 (hbw.trans (hW.mono hbw.size)) hW.size (heap_below hW N0.out.2.2.1) (heap_below hW N0.out.2.2.2.1) (heap_below hW N0.out.2.2.2.2) (by omega)
      (by unfold ownAt; rw [cell_of_heap (HB.out W hb1).2.2.1]; rfl) hJ hY h0
  case assign =>
    intro l pre x W K Bx hBx hI hK
    unfold celV
    gi_wp2
    rw [← hBx]
    exact hK
  case body =>
    intro l pre x Bx W hI hBx hbx hlt
    obtain ⟨hal, hb, hzW⟩ := hI
    have hbW := below_from hb6 hb
    obtain ⟨sx, sxf⟩ := blk hbx
    obtain ⟨s0, s0f⟩ := blk (HB.out _ hbW).2.1
    obtain ⟨s1, s1f⟩ := blk (heap_below hb N0.out.1)
    obtain ⟨s2, s2f⟩ := blk (heap_below hb N0.out.2.1)
    have HA := Lib.hid (And.intro hal (And.intro hb (And.intro hzW hbW)))
    clear hal hb
    by_cases hx : x.href = []
    · have HX := Lib.hid hx
      have hq : x.href.isEmpty = true := by simpa using hx
      clear hx
      gi_wp2_with fail
      exact ⟨KeepsFrom.refl _ _, Kd.of_below (by have := hbw.size; omega) (by omega) (Below.refl _ _), fun c hc => (by rcases List.mem_append.1 hc with h | h; exact HA.out.1 c h; rw [List.mem_singleton.1 h]; exact HX.out), HA.out.2.1, HA.out.2.2.1⟩
    · have HX := Lib.hid hx
      have hq : x.href.isEmpty = false := by simpa using hx
      clear hx
      gi_wp2_with (gi_at_call 100; refine (callsIn_wide.2 (HLk.out _ HA.out.2.2.2)).mono ?_; intro e w7 hsaid; obtain ⟨v7, rfl, hv7, hb7⟩ := hsaid; obtain ⟨a7, c7, rfl⟩ := hv7.slice; have HV7 := Lib.hid hv7; clear hv7; have hx7 := below_from HA.out.2.2.2 hb7; obtain ⟨t3, t3f⟩ := blk (HB.out _ hx7).2.2.2.1; obtain ⟨t4, t4f⟩ := blk (HB.out _ hx7).2.2.2.2)
      refine ⟨((keeps_below hb7).from _).trans (((KeepsOthers.setCell _ _ _).trans (KeepsOthers.setCell _ _ _)).from _), rfl, ⟨x, by simp, HX.out⟩, .slice a7 X.length c7, ?_, ?_, ?_, ?_⟩
      · rw [heap_set, if_neg (by simp), heap_set, if_pos rfl, (HB.out _ hx7).2.2.2.1]; rfl
      · rw [heap_set, if_pos rfl, heap_set, if_neg (by simp), (HB.out _ hx7).2.2.2.2]; rfl
      · have hv7 := HV7.out
        have hw7 := hb7.size
        exact (SliceR.stable (rdLin_stable _) hv7 (by (repeat' (first | (with_reducible exact Keeps.refl _ _) | (with_reducible refine Keeps.set ?_ ?_ _) | (with_reducible refine Keeps.alloc ?_ _) | (with_reducible refine Keeps.drew ?_) | (first | fail) | (simp; omega)))) (fun b h _ => (by have h' := h; (try simp at h'); omega)))
      · exact ((H1.out.trans (hx7.mono hs1)).setCell (by show w.heap.size ≤ w.heap.size + 3; omega) _).setCell (by show w.heap.size ≤ w.heap.size + 4; omega) _
  case done =>
    rintro D ys W hD hys ⟨hal, hb, hzW⟩ hK
    subst hys
    have hbW := below_from hb6 hb
    obtain ⟨t3, t3f⟩ := blk (HB.out _ hbW).2.2.2.1
    obtain ⟨t4, t4f⟩ := blk (HB.out _ hbW).2.2.2.2
    have HR : Hid (unlinkL s = ([], 7)) := Lib.hid (HR.out.trans (if_neg (by
      rw [List.any_eq_true]
      rintro ⟨c, hc, hc2⟩
      exact absurd (hal c hc) (by simpa using hc2))))
    have HB9 := Lib.hid hbW
    have HK9 := Lib.hid hK
    clear hal hb hK
    gi_wp2_with fail
    have r1 : ((W.setCell ⟨w.heap.size + 1 + 1 + 1, 0, none⟩ (.slice none 0 0)).setCell ⟨w.heap.size + 1 + 1 + 1 + 1, 0, none⟩ (.int .i64 7)).cell? ⟨w.heap.size + 1 + 1 + 1, 0, none⟩ = some (.slice none 0 0) := (setCell_block (by omega)).trans (setCell_same (t3 0))
    have r2 : ((W.setCell ⟨w.heap.size + 1 + 1 + 1, 0, none⟩ (.slice none 0 0)).setCell ⟨w.heap.size + 1 + 1 + 1 + 1, 0, none⟩ (.int .i64 7)).cell? ⟨w.heap.size + 1 + 1 + 1 + 1, 0, none⟩ = some (.int .i64 7) := setCell_same ((setCell_block (by omega)).trans (t4 0))
    have hK2 : ((W.setCell ⟨w.heap.size + 1 + 1 + 1, 0, none⟩ (.slice none 0 0)).setCell ⟨w.heap.size + 1 + 1 + 1 + 1, 0, none⟩ (.int .i64 7)).heap[D]? = some (.deferred (some [])) := by rw [heap_set, if_neg (by show ¬ w.heap.size + 1 + 1 + 1 + 1 = D; omega), heap_set, if_neg (by show ¬ w.heap.size + 1 + 1 + 1 = D; omega)]; exact HK9.out
    have hbE : Below w.heap.size w ((W.setCell ⟨w.heap.size + 1 + 1 + 1, 0, none⟩ (.slice none 0 0)).setCell ⟨w.heap.size + 1 + 1 + 1 + 1, 0, none⟩ (.int .i64 7)) := ((H1.out.trans (HB9.out.mono hs1)).setCell (by show w.heap.size ≤ w.heap.size + 1 + 1 + 1; omega) _).setCell (by show w.heap.size ≤ w.heap.size + 1 + 1 + 1 + 1; omega) _
    refine ⟨by simp, .inl ⟨_, _, rfl, run_takeDeferred hK2, ?_⟩⟩
    refine ⟨_, results_doc_e rfl _ _ ⟨w.heap.size + 1 + 1 + 1, 0, none⟩ ⟨w.heap.size + 1 + 1 + 1 + 1, 0, none⟩ (.slice none 0 0) 7 ⟨_, _, _, rfl⟩ rfl rfl ((World.cell?_of_block (World.putObj_heap_other (by simp; omega))).trans r1) ((World.cell?_of_block (World.putObj_heap_other (by simp; omega))).trans r2), ?_⟩
    unfold DocSaid
    rw [HR.out]
    exact ⟨_, rfl, SliceR.nil _ _ _ _ _ _, hbE.trans (belowK_b (w := w) (Nat.le_refl _) _ D _ _ (by omega) hK2 rfl rfl)⟩
  case stop =>
    rintro D c pre W hD hpre ⟨rfl, ⟨z, hz1, hz2⟩, v9, h3, h4, h5, h6⟩ hK
    have HR : Hid (unlinkL s = (X, er)) := Lib.hid (HR.out.trans (if_pos (by
      rw [List.any_eq_true]
      exact ⟨z, hpre.subset hz1, by simpa using hz2⟩)))
    obtain ⟨t3, t3f⟩ := blk h3
    obtain ⟨t4, t4f⟩ := blk h4
    obtain ⟨a9, c9, rfl⟩ := h5.slice
    have HV9 := Lib.hid h5
    have HB9 := Lib.hid h6
    have HK9 := Lib.hid hK
    clear h3 h4 h5 h6 hK hpre hz1 hz2
    gi_wp2_with fail
    refine ⟨by simp, .inl ⟨_, _, rfl, run_takeDeferred HK9.out, ?_⟩⟩
    refine ⟨_, results_doc_e rfl _ _ ⟨w.heap.size + 1 + 1 + 1, 0, none⟩ ⟨w.heap.size + 1 + 1 + 1 + 1, 0, none⟩ (.slice a9 X.length c9) er ⟨_, _, _, rfl⟩ rfl rfl ((World.cell?_of_block (World.putObj_heap_other (by simp; omega))).trans (t3 0)) ((World.cell?_of_block (World.putObj_heap_other (by simp; omega))).trans (t4 0)), ?_⟩
    unfold DocSaid
    rw [HR.out]
    exact ⟨_, rfl, SliceR.stable (rdLin_stable true) ((doc_own (β := Unit) D _ _ (fun _ => X)).putObj (s := ()) _ HV9.out (Nat.le_refl _) HK9.out rfl) (Keeps.refl _ _) (fun b h _ => Nat.le_trans (by omega) h), HB9.out.trans (belowK_b (w := w) (Nat.le_refl _) W D _ _ (by omega) HK9.out rfl rfl)⟩
set_option maxRecDepth 100000 in
set_option maxHeartbeats 2000000 in
theorem styUnlink_any (v : Value) (s : St) (w : World) (S : Nat → Prop) (h : LinsR w S v s.lines) (he : EnvT w) (hs : Small s.lines) (hf : Fits s.lines) :
    Calls Tryz.prog 37 #[stV v s] w (StSaid (changedS s (unlinkL s)) w) := by
  obtain ⟨W1, hW1, hB, hz, k0, k2⟩ := st_two w v s
  have HB : Hid (∀ W, Below W1.heap.size W1 W → W.heap[w.heap.size]? = some (.cells #[v, .int .i64 s.anc.line, .int .i64 s.anc.col, .int .i64 s.foc.line, .int .i64 s.foc.col, .int .i64 s.on, .int .i64 s.off] 26) ∧ W.heap[w.heap.size + 1]? = some (.cells #[.slice none 0 0, .int .i64 0, .int .i64 0, .int .i64 0, .int .i64 0, .int .i64 0, .int .i64 0] 26)) := Lib.hid fun W hW => ⟨heap_below hW k0, heap_below hW k2⟩
  have hs1 := hB.size
  have H1 := Lib.hid hB
  have HC := Lib.hid (styChanged_any v s 107 #[.pointer (some ⟨w.heap.size, 0, none⟩)] (unlinkL s) W1 S (h.below (rdLin_stable _) hB) (he.below hB) hs (enters_of Tryz.func107 (by kernel_rfl) rfl)
    (fun hm W hW => styUnlink1_any w.heap.size v s (spanS s).1 (spanS s).2 W S (h.below (rdLin_stable _) (hB.trans (hW.mono hs1))) ((he.below hB).below hW) hs hf (mayS_at hm).2.1 (heap_below hW k0)))
  obtain ⟨X, hX⟩ : ∃ X, changedS s (unlinkL s) = X := ⟨_, rfl⟩
  rw [hX] at HC ⊢
  obtain ⟨p0, f0⟩ := blk k0
  obtain ⟨p2, f2⟩ := blk k2
  obtain ⟨va, vc, rfl⟩ := h.slice
  clear h he hs hf hX k0 k2 hB
  go_enter Tryz.func37, Tryz.ntmps37
  go_wp2_with (go_at_call 95; refine HC.out.mono ?_; intro e w2 hsaid; obtain ⟨v2, rfl, hv2, hb2⟩ := hsaid; obtain ⟨a2, c2, rfl⟩ := hv2.slice; have HV2 := Lib.hid hv2; clear hv2; obtain ⟨q2, g2⟩ := blk (HB.out _ hb2).2)
  refine bodyPost_ret (results_st_e rfl _ _ (w.heap.size + 1) (.slice a2 X.1.lines.length c2) (.int .i64 X.1.anc.line) (.int .i64 X.1.anc.col) (.int .i64 X.1.foc.line) (.int .i64 X.1.foc.col) (.int .i64 X.1.on) (.int .i64 X.1.off) (.int .i64 X.2) rfl rfl (by simp [heap_set, putIn, (HB.out _ hb2).2])) rfl ?_
  have hfin := H1.out.trans (hb2.mono hs1)
  have hv2 := HV2.out
  exact ⟨_, rfl, (SliceR.stable (rdLin_stable _) hv2 (by (repeat' (first | (with_reducible exact Keeps.refl _ _) | (with_reducible refine Keeps.set ?_ ?_ _) | (with_reducible refine Keeps.alloc ?_ _) | (with_reducible refine Keeps.drew ?_) | (first | fail) | (simp; omega)))) (fun b h _ => (by have h' := h; (try simp at h'); omega))), by (repeat' (first | (with_reducible exact Below.refl _ _) | (with_reducible assumption) | (with_reducible refine Below.alloc ?_ ?_ _) | (with_reducible refine Below.drew ?_) | (with_reducible refine drewN_below ?_) | (with_reducible refine Below.setCell ?_ ?_ _) | go_size))⟩
end Go.Proofs.YtpndnbjpnajaaaaGreatDoor
namespace Go.Proofs.Qw
open Go.RowKit Go.Proofs.YtpndnbjpnajaaaaGreatDoor
def exL (b c : Int) (h k : List UInt8) : Doc := [⟨0, [], 0, [⟨97, b, h⟩, ⟨98, c, k⟩]⟩]
def exA : St := ⟨exL 0 1 [] [], ⟨0, 0⟩, ⟨0, 2⟩, 0, 0⟩
def exB : St := ⟨exL 1 1 [] [], ⟨0, 0⟩, ⟨0, 2⟩, 0, 0⟩
def exC : St := ⟨exL 0 0 [] [], ⟨0, 0⟩, ⟨0, 2⟩, 0, 0⟩
def exX : List UInt8 := [120]
def exD : St := ⟨exL 0 1 exX exX, ⟨0, 0⟩, ⟨0, 2⟩, 0, 0⟩
def exE : St := ⟨exL 0 1 [] [], ⟨0, 2⟩, ⟨0, 2⟩, 0, 0⟩
def exF : St := ⟨exL 0 1 [] [], ⟨0, 2⟩, ⟨0, 2⟩, 0, 1⟩
theorem exA_tog : toggleS exA 1 = (exB, 0) := by decide +kernel
theorem exB_tog : toggleS exB 1 = (exC, 0) := by decide +kernel
theorem exA_link : changedS exA (linkL exA [120]) = (exD, 0) := by decide +kernel
theorem exA_off : changedS exA (linkL exA [32, 120]) = (noS, 1) := by decide +kernel
theorem exE_tog : toggleS exE 1 = (exF, 0) := by decide +kernel
theorem exD_href : hrefS exD = [120] := by decide +kernel
theorem exE_bits : bitsS exE = 1 := by decide +kernel
theorem exF_bits : bitsS exF = 0 := by decide +kernel
end Go.Proofs.Qw
namespace Go.Proofs.YtpndnbjpnajaaaaGreatDoor
open Go.RowKit
open Go.Proofs.Qw
theorem on1f {w : World} {B : Nat} {cs : Array Value} {t : TypeId} (h : w.heap[B]? = some (.cells cs t)) : ∀ X k, (w.alloc X).frozen? ⟨B, k, none⟩ = false := fun X _ => frozen_of_heap (heap_old _ X h)
theorem exL_small (b c : Int) {h k : List UInt8} (h1 : h.length ≤ 10) (h2 : k.length ≤ 10) : Small (exL b c h k) ∧ Fits (exL b c h k) := by
  refine ⟨⟨by simp [sizeD, exL], by simp [exL], fun l hl x hx => ?_⟩, by simp [exL], fun l hl => ?_⟩
  · simp only [exL, List.mem_singleton] at hl
    subst hl
    simp only [List.mem_cons, List.mem_nil_iff, or_false] at hx
    rcases hx with rfl | rfl
    · show h.length ≤ _; omega
    · show k.length ≤ _; omega
  · simp only [exL, List.mem_singleton] at hl
    subst hl
    simp
theorem exL_at {w : World} {S : Nat → Prop} {v : Value} {b c : Int} {h k : List UInt8} (hv : DocR true w S v (exL b c h k)) :
    ∃ p o n la lc p2 o2 n2, v = .slice (some ⟨p, o, none⟩) 1 n ∧ p < w.heap.size ∧ p2 < w.heap.size ∧ w.cell? ⟨p, o + 1, none⟩ = some (.slice la 0 lc) ∧ w.cell? ⟨p, o + 3, none⟩ = some (.slice (some ⟨p2, o2, none⟩) 2 n2) ∧ w.cell? ⟨p2, o2 + 1, none⟩ = some (.int .i64 b) ∧ w.cell? ⟨p2, o2 + 3 + 1, none⟩ = some (.int .i64 c) ∧ n ≤ maxLen ∧ n2 ≤ maxLen ∧ 1 ≤ n ∧ 2 ≤ n2 := by
  obtain ⟨p, o, n, la, lc, ca, cc, rfl, hc, hm, hA, _, hC, _⟩ := docOwn_at hv (i := 0) (l := ⟨0, [], 0, [⟨97, b, h⟩, ⟨98, c, k⟩]⟩) rfl
  rw [Nat.zero_mul, Nat.add_zero] at hA
  obtain ⟨hlt, _, a1, _, a3, _, _⟩ := hA
  obtain ⟨a, n2, he, hn2, hm2, hx⟩ := cels_shape (SliceR.read (fun _ _ h => h) hC)
  cases he
  obtain ⟨p2, o2, rfl, hz2, _, c1, _⟩ := hx 0 _ rfl
  obtain ⟨p3, o3, he3, _, _, d1, _⟩ := hx 1 _ rfl
  cases he3
  rw [Nat.zero_mul, Nat.add_zero] at c1
  rw [Nat.one_mul] at d1
  exact ⟨p, o, n, la, lc, p2, o2, _, rfl, hlt, hz2, a1, a3, c1, d1, hm, hm2, hc, hn2⟩
set_option maxRecDepth 100000 in
set_option maxHeartbeats 4000000 in
theorem awake24_any (w : World) (he : EnvT w) : Calls Tryz.prog 18 #[] w fun e w' => e = .returned (.bool true) ∧ Below w.heap.size w w' := by
  obtain ⟨W1, hW1⟩ : ∃ W1, ((w.alloc (.cells #[.int .i32 97, .int .i64 0, .string ⟨#[]⟩, .int .i32 98, .int .i64 1, .string ⟨#[]⟩] 44)).alloc (.cells #[.int .i64 0, .slice none 0 0, .int .i64 0, .slice (some ⟨w.heap.size, 0, none⟩) 2 2] 42)).alloc (.cells #[.slice (some ⟨w.heap.size + 1, 0, none⟩) 1 1, .int .i64 0, .int .i64 0, .int .i64 0, .int .i64 2, .int .i64 0, .int .i64 0] 26) = W1 := ⟨_, rfl⟩
  have hB : Below w.heap.size w W1 := hW1 ▸ below3 (Below.refl _ _) _ _ _
  have hz : w.heap.size + 3 = W1.heap.size := by rw [← hW1]; simp
  have k0 : W1.heap[w.heap.size]? = some (.cells #[.int .i32 97, .int .i64 0, .string ⟨#[]⟩, .int .i32 98, .int .i64 1, .string ⟨#[]⟩] 44) := hW1 ▸ heap_old _ _ (heap_old _ _ (heap_new _ _ rfl))
  have k1 : W1.heap[w.heap.size + 1]? = some (.cells #[.int .i64 0, .slice none 0 0, .int .i64 0, .slice (some ⟨w.heap.size, 0, none⟩) 2 2] 42) := hW1 ▸ heap_old _ _ (heap_new _ _ (by simp))
  have k2 : W1.heap[w.heap.size + 1 + 1]? = some (.cells #[.slice (some ⟨w.heap.size + 1, 0, none⟩) 1 1, .int .i64 0, .int .i64 0, .int .i64 0, .int .i64 2, .int .i64 0, .int .i64 0] 26) := hW1 ▸ heap_new _ _ (by simp)
  have hd0 : LinsR W1 (fun b => b < w.heap.size + 2) (.slice (some ⟨w.heap.size + 1, 0, none⟩) 1 1) (exL 0 1 [] []) := by
    refine ⟨_, 1, rfl, Nat.le_refl _, by decide, .inr ⟨w.heap.size + 1, 0, rfl, (by show w.heap.size + 1 < w.heap.size + 2; omega), by omega, fun h => (by cases h), fun i x hx => ?_⟩⟩
    match i, hx with
    | 0, hx =>
      cases hx
      exact ⟨[.int .i64 0, .slice none 0 0, .int .i64 0, .slice (some ⟨w.heap.size, 0, none⟩) 2 2], rfl, ⟨.slice none 0 0, _, rfl, SliceR.nil _ _ _ _ _ _, slice_blk (enc := encCel) (fun _ => rfl) [⟨97, 0, []⟩, ⟨98, 1, []⟩] k0 (by show w.heap.size < w.heap.size + 2; omega) (by decide)⟩, fun j u hu => by
        rw [cell_of_heap k1, Nat.zero_mul, Nat.zero_add]
        simpa using hu⟩
  have hs1 := hB.size
  have HE : Hid (∀ W, Below w.heap.size w W → EnvT W) := Lib.hid fun W hW => he.below hW
  have HB1 := Lib.hid hB
  have HD1 := Lib.hid hd0
  have HK1 := Lib.hid k2
  have HS1 : Hid (w.heap.size + 3 ≤ W1.heap.size) := Lib.hid (by omega)
  have HW1 := Lib.hid hW1
  clear he hd0 k0 k1 k2 hB hW1
  go_enter Tryz.func18, Tryz.ntmps18
  go_wp2_with fail
  rw [HW1.out]
  have HC2 : Hid (Calls Tryz.prog 29 #[.agg #[.slice (some ⟨w.heap.size + 1, 0, none⟩) 1 1, .int .i64 0, .int .i64 0, .int .i64 0, .int .i64 2, .int .i64 0, .int .i64 0], .int .i64 1] W1 (StSaid ((⟨exL 1 1 [] [], ⟨0, 0⟩, ⟨0, 2⟩, 0, 0⟩, 0)) W1)) := Lib.hid (by
    have := styToggle_any (.slice (some ⟨w.heap.size + 1, 0, none⟩) 1 1) exA 1 W1 _ HD1.out (HE.out _ HB1.out) (exL_small _ _ (by decide) (by decide)).1 (exL_small _ _ (by decide) (by decide)).2
    rw [exA_tog] at this
    exact this)
  refine HC2.out.mono ?_
  intro e w2 hsaid
  obtain ⟨v2, rfl, hv2, hst2⟩ := hsaid
  obtain ⟨x2, y2, hve2⟩ := hv2.slice
  rw [show (exL 1 1 [] []).length = 1 from rfl] at hve2
  subst hve2
  have HB20 : Hid (Below w.heap.size w w2) := Lib.hid (below_from HB1.out hst2)
  have HK20 := Lib.hid (heap_below hst2 HK1.out)
  have HD20 := Lib.hid (HD1.out.below (rdLin_stable _) hst2)
  have HS20 := Lib.hid (Nat.le_trans HS1.out hst2.size)
  have HR2_20 := Lib.hid hv2
  have HT2 := Lib.hid hst2
  clear hv2 hst2
  obtain ⟨q2, g2⟩ := blk HK20.out
  have r2 := on1 HK20.out
  have u2 := on1f HK20.out
  have e2 : ¬ w2.heap.size = w.heap.size + 1 + 1 := by have := HS20.out; omega
  go_wp2_with fail
  obtain ⟨m2, hm2⟩ : ∃ m2, w2.alloc (.cells #[.slice x2 1 y2, .int .i64 0, .int .i64 0, .int .i64 0, .int .i64 2, .int .i64 0, .int .i64 0] 26) = m2 := ⟨_, rfl⟩
  rw [hm2]
  have hbm2 : Below w2.heap.size w2 m2 := hm2 ▸ below1 (Below.refl _ _) _
  have HN2_2 : Hid (m2.heap[w2.heap.size]? = some (.cells #[.slice x2 1 y2, .int .i64 0, .int .i64 0, .int .i64 0, .int .i64 2, .int .i64 0, .int .i64 0] 26)) := Lib.hid (hm2 ▸ heap_new _ _ rfl)
  have HB2 := Lib.hid (below_from HB20.out hbm2)
  have HK2 := Lib.hid (heap_below hbm2 HK20.out)
  have HD2 := Lib.hid (HD20.out.below (rdLin_stable _) hbm2)
  have HS2 := Lib.hid (Nat.le_trans HS20.out hbm2.size)
  have HR2_2 := Lib.hid (HR2_20.out.below hbm2)
  clear hbm2 hm2 q2 g2 r2 u2 e2
  have HC3 : Hid (Calls Tryz.prog 29 #[.agg #[.slice x2 1 y2, .int .i64 0, .int .i64 0, .int .i64 0, .int .i64 2, .int .i64 0, .int .i64 0], .int .i64 1] m2 (StSaid ((⟨exL 0 0 [] [], ⟨0, 0⟩, ⟨0, 2⟩, 0, 0⟩, 0)) m2)) := Lib.hid (by
    have := styToggle_any _ exB 1 m2 _ HR2_2.out.read (HE.out _ HB2.out) (exL_small _ _ (by decide) (by decide)).1 (exL_small _ _ (by decide) (by decide)).2
    rw [exB_tog] at this
    exact this)
  refine HC3.out.mono ?_
  intro e w3 hsaid
  obtain ⟨v3, rfl, hv3, hst3⟩ := hsaid
  obtain ⟨x3, y3, hve3⟩ := hv3.slice
  rw [show (exL 0 0 [] []).length = 1 from rfl] at hve3
  subst hve3
  have HB30 : Hid (Below w.heap.size w w3) := Lib.hid (below_from HB2.out hst3)
  have HK30 := Lib.hid (heap_below hst3 HK2.out)
  have HD30 := Lib.hid (HD2.out.below (rdLin_stable _) hst3)
  have HS30 := Lib.hid (Nat.le_trans HS2.out hst3.size)
  have HR3_30 := Lib.hid hv3
  have HR2_30 := Lib.hid (HR2_2.out.below hst3)
  have HN2_30 := Lib.hid (heap_below hst3 HN2_2.out)
  have HT3 := Lib.hid hst3
  clear hv3 hst3
  obtain ⟨q3, g3⟩ := blk HK30.out
  have r3 := on1 HK30.out
  have u3 := on1f HK30.out
  have e3 : ¬ w3.heap.size = w.heap.size + 1 + 1 := by have := HS30.out; omega
  go_wp2_with fail
  obtain ⟨m3, hm3⟩ : ∃ m3, w3.alloc (.cells #[.slice x3 1 y3, .int .i64 0, .int .i64 0, .int .i64 0, .int .i64 2, .int .i64 0, .int .i64 0] 26) = m3 := ⟨_, rfl⟩
  rw [hm3]
  have hbm3 : Below w3.heap.size w3 m3 := hm3 ▸ below1 (Below.refl _ _) _
  have HN3_3 : Hid (m3.heap[w3.heap.size]? = some (.cells #[.slice x3 1 y3, .int .i64 0, .int .i64 0, .int .i64 0, .int .i64 2, .int .i64 0, .int .i64 0] 26)) := Lib.hid (hm3 ▸ heap_new _ _ rfl)
  have HB3 := Lib.hid (below_from HB30.out hbm3)
  have HK3 := Lib.hid (heap_below hbm3 HK30.out)
  have HD3 := Lib.hid (HD30.out.below (rdLin_stable _) hbm3)
  have HS3 := Lib.hid (Nat.le_trans HS30.out hbm3.size)
  have HR3_3 := Lib.hid (HR3_30.out.below hbm3)
  have HR2_3 := Lib.hid (HR2_30.out.below hbm3)
  have HN2_3 := Lib.hid (heap_below hbm3 HN2_30.out)
  clear hbm3 hm3 q3 g3 r3 u3 e3
  have HC4 : Hid (Calls Tryz.prog 30 #[.agg #[.slice (some ⟨w.heap.size + 1, 0, none⟩) 1 1, .int .i64 0, .int .i64 0, .int .i64 0, .int .i64 2, .int .i64 0, .int .i64 0], .string ⟨#[120]⟩] m3 (StSaid ((⟨exL 0 1 exX exX, ⟨0, 0⟩, ⟨0, 2⟩, 0, 0⟩, 0)) m3)) := Lib.hid (by
    have := styLink_any (.slice (some ⟨w.heap.size + 1, 0, none⟩) 1 1) exA [120] m3 _ HD3.out (HE.out _ HB3.out) (exL_small _ _ (by decide) (by decide)).1 (exL_small _ _ (by decide) (by decide)).2 (by decide)
    rw [exA_link] at this
    exact this)
  refine HC4.out.mono ?_
  intro e w4 hsaid
  obtain ⟨v4, rfl, hv4, hst4⟩ := hsaid
  obtain ⟨x4, y4, hve4⟩ := hv4.slice
  rw [show (exL 0 1 exX exX).length = 1 from rfl] at hve4
  subst hve4
  have HB40 : Hid (Below w.heap.size w w4) := Lib.hid (below_from HB3.out hst4)
  have HK40 := Lib.hid (heap_below hst4 HK3.out)
  have HD40 := Lib.hid (HD3.out.below (rdLin_stable _) hst4)
  have HS40 := Lib.hid (Nat.le_trans HS3.out hst4.size)
  have HR4_40 := Lib.hid hv4
  have HR2_40 := Lib.hid (HR2_3.out.below hst4)
  have HN2_40 := Lib.hid (heap_below hst4 HN2_3.out)
  have HR3_40 := Lib.hid (HR3_3.out.below hst4)
  have HN3_40 := Lib.hid (heap_below hst4 HN3_3.out)
  have HT4 := Lib.hid hst4
  clear hv4 hst4
  obtain ⟨q4, g4⟩ := blk HK40.out
  have r4 := on1 HK40.out
  have u4 := on1f HK40.out
  have e4 : ¬ w4.heap.size = w.heap.size + 1 + 1 := by have := HS40.out; omega
  go_wp2_with fail
  obtain ⟨m4, hm4⟩ : ∃ m4, w4.alloc (.cells #[.slice x4 1 y4, .int .i64 0, .int .i64 0, .int .i64 0, .int .i64 2, .int .i64 0, .int .i64 0] 26) = m4 := ⟨_, rfl⟩
  rw [hm4]
  have hbm4 : Below w4.heap.size w4 m4 := hm4 ▸ below1 (Below.refl _ _) _
  have HN4_4 : Hid (m4.heap[w4.heap.size]? = some (.cells #[.slice x4 1 y4, .int .i64 0, .int .i64 0, .int .i64 0, .int .i64 2, .int .i64 0, .int .i64 0] 26)) := Lib.hid (hm4 ▸ heap_new _ _ rfl)
  have HB4 := Lib.hid (below_from HB40.out hbm4)
  have HK4 := Lib.hid (heap_below hbm4 HK40.out)
  have HD4 := Lib.hid (HD40.out.below (rdLin_stable _) hbm4)
  have HS4 := Lib.hid (Nat.le_trans HS40.out hbm4.size)
  have HR4_4 := Lib.hid (HR4_40.out.below hbm4)
  have HR2_4 := Lib.hid (HR2_40.out.below hbm4)
  have HN2_4 := Lib.hid (heap_below hbm4 HN2_40.out)
  have HR3_4 := Lib.hid (HR3_40.out.below hbm4)
  have HN3_4 := Lib.hid (heap_below hbm4 HN3_40.out)
  clear hbm4 hm4 q4 g4 r4 u4 e4
  have HC5 : Hid (Calls Tryz.prog 30 #[.agg #[.slice (some ⟨w.heap.size + 1, 0, none⟩) 1 1, .int .i64 0, .int .i64 0, .int .i64 0, .int .i64 2, .int .i64 0, .int .i64 0], .string ⟨#[32, 120]⟩] m4 (StSaid ((⟨[], ⟨0, 0⟩, ⟨0, 0⟩, 0, 0⟩, 1)) m4)) := Lib.hid (by
    have := styLink_any (.slice (some ⟨w.heap.size + 1, 0, none⟩) 1 1) exA [32, 120] m4 _ HD4.out (HE.out _ HB4.out) (exL_small _ _ (by decide) (by decide)).1 (exL_small _ _ (by decide) (by decide)).2 (by decide)
    rw [exA_off] at this
    exact this)
  refine HC5.out.mono ?_
  intro e w5 hsaid
  obtain ⟨v5, rfl, hv5, hst5⟩ := hsaid
  obtain ⟨x5, y5, hve5⟩ := hv5.slice
  rw [show (([] : Doc)).length = 0 from rfl] at hve5
  subst hve5
  have HB50 : Hid (Below w.heap.size w w5) := Lib.hid (below_from HB4.out hst5)
  have HK50 := Lib.hid (heap_below hst5 HK4.out)
  have HD50 := Lib.hid (HD4.out.below (rdLin_stable _) hst5)
  have HS50 := Lib.hid (Nat.le_trans HS4.out hst5.size)
  have HR5_50 := Lib.hid hv5
  have HR2_50 := Lib.hid (HR2_4.out.below hst5)
  have HN2_50 := Lib.hid (heap_below hst5 HN2_4.out)
  have HR3_50 := Lib.hid (HR3_4.out.below hst5)
  have HN3_50 := Lib.hid (heap_below hst5 HN3_4.out)
  have HR4_50 := Lib.hid (HR4_4.out.below hst5)
  have HN4_50 := Lib.hid (heap_below hst5 HN4_4.out)
  have HT5 := Lib.hid hst5
  clear hv5 hst5
  obtain ⟨q5, g5⟩ := blk HK50.out
  have r5 := on1 HK50.out
  have u5 := on1f HK50.out
  have e5 : ¬ w5.heap.size = w.heap.size + 1 + 1 := by have := HS50.out; omega
  go_wp2_with fail
  obtain ⟨m5, hm5⟩ : ∃ m5, w5.alloc (.cells #[.slice x5 0 y5, .int .i64 0, .int .i64 0, .int .i64 0, .int .i64 0, .int .i64 0, .int .i64 0] 26) = m5 := ⟨_, rfl⟩
  rw [hm5]
  have hbm5 : Below w5.heap.size w5 m5 := hm5 ▸ below1 (Below.refl _ _) _
  have HN5_5 : Hid (m5.heap[w5.heap.size]? = some (.cells #[.slice x5 0 y5, .int .i64 0, .int .i64 0, .int .i64 0, .int .i64 0, .int .i64 0, .int .i64 0] 26)) := Lib.hid (hm5 ▸ heap_new _ _ rfl)
  have HB5 := Lib.hid (below_from HB50.out hbm5)
  have HK5 := Lib.hid (heap_below hbm5 HK50.out)
  have HD5 := Lib.hid (HD50.out.below (rdLin_stable _) hbm5)
  have HS5 := Lib.hid (Nat.le_trans HS50.out hbm5.size)
  have HR5_5 := Lib.hid (HR5_50.out.below hbm5)
  have HR2_5 := Lib.hid (HR2_50.out.below hbm5)
  have HN2_5 := Lib.hid (heap_below hbm5 HN2_50.out)
  have HR3_5 := Lib.hid (HR3_50.out.below hbm5)
  have HN3_5 := Lib.hid (heap_below hbm5 HN3_50.out)
  have HR4_5 := Lib.hid (HR4_50.out.below hbm5)
  have HN4_5 := Lib.hid (heap_below hbm5 HN4_50.out)
  clear hbm5 hm5 q5 g5 r5 u5 e5
  obtain ⟨m6, hm6⟩ : ∃ m6, (m5.setCell ⟨w.heap.size + 1 + 1, 1, none⟩ (.int .i64 0)).setCell ⟨w.heap.size + 1 + 1, 2, none⟩ (.int .i64 2) = m6 := ⟨_, rfl⟩
  rw [hm6]
  have o6 : ∀ k, k ≠ w.heap.size + 1 + 1 → m6.heap[k]? = m5.heap[k]? := fun k hk => by rw [← hm6, heap_set, if_neg (Ne.symm hk), heap_set, if_neg (Ne.symm hk)]
  have z6 : m6.heap.size = m5.heap.size := by rw [← hm6]; simp
  have HB6 : Hid (Below w.heap.size w m6) := Lib.hid (hm6 ▸ (HB5.out.setCell (by show w.heap.size ≤ w.heap.size + 1 + 1; omega) _).setCell (by show w.heap.size ≤ w.heap.size + 1 + 1; omega) _)
  have HK6 : Hid (m6.heap[w.heap.size + 1 + 1]? = some (.cells #[.slice (some ⟨w.heap.size + 1, 0, none⟩) 1 1, .int .i64 0, .int .i64 2, .int .i64 0, .int .i64 2, .int .i64 0, .int .i64 0] 26)) := Lib.hid (by rw [← hm6, heap_set, if_pos rfl, heap_set, if_pos rfl, HK5.out]; rfl)
  have HD6 := Lib.hid (SliceR.stable (rdLin_stable false) HD5.out ⟨by omega, fun b hb _ => o6 b (by have hb : b < w.heap.size + 2 := hb; omega)⟩ (fun b h _ => h))
  have HS6 : Hid (w.heap.size + 3 ≤ m6.heap.size) := Lib.hid (by have := HS5.out; omega)
  have HR2_6 : Hid (DocR true m6 (fun b => W1.heap.size ≤ b) (.slice x2 1 y2) (exL 1 1 [] [])) := Lib.hid (SliceR.stable (rdLin_stable true) HR2_5.out ⟨by omega, fun b hb _ => o6 b (by have hb : W1.heap.size ≤ b := hb; have := HS1.out; omega)⟩ (fun b h _ => h))
  have HN2_6 := Lib.hid ((o6 w2.heap.size (by have := HS20.out; omega)).trans HN2_5.out)
  have HR3_6 : Hid (DocR true m6 (fun b => m2.heap.size ≤ b) (.slice x3 1 y3) (exL 0 0 [] [])) := Lib.hid (SliceR.stable (rdLin_stable true) HR3_5.out ⟨by omega, fun b hb _ => o6 b (by have hb : m2.heap.size ≤ b := hb; have := HS2.out; omega)⟩ (fun b h _ => h))
  have HN3_6 := Lib.hid ((o6 w3.heap.size (by have := HS30.out; omega)).trans HN3_5.out)
  have HR4_6 : Hid (DocR true m6 (fun b => m3.heap.size ≤ b) (.slice x4 1 y4) (exL 0 1 exX exX)) := Lib.hid (SliceR.stable (rdLin_stable true) HR4_5.out ⟨by omega, fun b hb _ => o6 b (by have hb : m3.heap.size ≤ b := hb; have := HS3.out; omega)⟩ (fun b h _ => h))
  have HN4_6 := Lib.hid ((o6 w4.heap.size (by have := HS40.out; omega)).trans HN4_5.out)
  clear hm6 o6 z6
  have HC7 : Hid (Calls Tryz.prog 29 #[.agg #[.slice (some ⟨w.heap.size + 1, 0, none⟩) 1 1, .int .i64 0, .int .i64 2, .int .i64 0, .int .i64 2, .int .i64 0, .int .i64 0], .int .i64 1] m6 (StSaid ((⟨exL 0 1 [] [], ⟨0, 2⟩, ⟨0, 2⟩, 0, 1⟩, 0)) m6)) := Lib.hid (by
    have := styToggle_any (.slice (some ⟨w.heap.size + 1, 0, none⟩) 1 1) exE 1 m6 _ HD6.out (HE.out _ HB6.out) (exL_small _ _ (by decide) (by decide)).1 (exL_small _ _ (by decide) (by decide)).2
    rw [exE_tog] at this
    exact this)
  refine HC7.out.mono ?_
  intro e w7 hsaid
  obtain ⟨v7, rfl, hv7, hst7⟩ := hsaid
  obtain ⟨x7, y7, hve7⟩ := hv7.slice
  rw [show (exL 0 1 [] []).length = 1 from rfl] at hve7
  subst hve7
  have HB70 : Hid (Below w.heap.size w w7) := Lib.hid (below_from HB6.out hst7)
  have HK70 := Lib.hid (heap_below hst7 HK6.out)
  have HD70 := Lib.hid (HD6.out.below (rdLin_stable _) hst7)
  have HS70 := Lib.hid (Nat.le_trans HS6.out hst7.size)
  have HR7_70 := Lib.hid hv7
  have HR2_70 := Lib.hid (HR2_6.out.below hst7)
  have HN2_70 := Lib.hid (heap_below hst7 HN2_6.out)
  have HR3_70 := Lib.hid (HR3_6.out.below hst7)
  have HN3_70 := Lib.hid (heap_below hst7 HN3_6.out)
  have HR4_70 := Lib.hid (HR4_6.out.below hst7)
  have HN4_70 := Lib.hid (heap_below hst7 HN4_6.out)
  have HT7 := Lib.hid hst7
  clear hv7 hst7
  obtain ⟨q7, g7⟩ := blk HK70.out
  have r7 := on1 HK70.out
  have u7 := on1f HK70.out
  have e7 : ¬ w7.heap.size = w.heap.size + 1 + 1 := by have := HS70.out; omega
  go_upto_region 8 with fail
  obtain ⟨m7, hm7⟩ : ∃ m7, w7.alloc (.cells #[.slice x7 1 y7, .int .i64 0, .int .i64 2, .int .i64 0, .int .i64 2, .int .i64 0, .int .i64 1] 26) = m7 := ⟨_, rfl⟩
  rw [hm7]
  have hbm7 : Below w7.heap.size w7 m7 := hm7 ▸ below1 (Below.refl _ _) _
  have HN7_7 : Hid (m7.heap[w7.heap.size]? = some (.cells #[.slice x7 1 y7, .int .i64 0, .int .i64 2, .int .i64 0, .int .i64 2, .int .i64 0, .int .i64 1] 26)) := Lib.hid (hm7 ▸ heap_new _ _ rfl)
  have HB7 := Lib.hid (below_from HB70.out hbm7)
  have HK7 := Lib.hid (heap_below hbm7 HK70.out)
  have HD7 := Lib.hid (HD70.out.below (rdLin_stable _) hbm7)
  have HS7 := Lib.hid (Nat.le_trans HS70.out hbm7.size)
  have HR7_7 := Lib.hid (HR7_70.out.below hbm7)
  have HR2_7 := Lib.hid (HR2_70.out.below hbm7)
  have HN2_7 := Lib.hid (heap_below hbm7 HN2_70.out)
  have HR3_7 := Lib.hid (HR3_70.out.below hbm7)
  have HN3_7 := Lib.hid (heap_below hbm7 HN3_70.out)
  have HR4_7 := Lib.hid (HR4_70.out.below hbm7)
  have HN4_7 := Lib.hid (heap_below hbm7 HN4_70.out)
  clear hbm7 hm7 q7 g7 r7 u7 e7
  have H7 := Below.refl m7.heap.size m7
  have HHr : Hid (Calls Tryz.prog 25 #[.agg #[.slice x4 1 y4, .int .i64 0, .int .i64 0, .int .i64 0, .int .i64 2, .int .i64 0, .int .i64 0]] m7 fun e w' => e = .returned (.string ⟨#[120]⟩) ∧ Below m7.heap.size m7 w') := Lib.hid (by
    have := styHref_any _ exD m7 _ HR4_7.out.read (HE.out _ HB7.out) (exL_small _ _ (by decide) (by decide)).1 (exL_small _ _ (by decide) (by decide)).2
    rw [exD_href] at this
    exact this)
  have HBe : Hid (∀ W, Below m7.heap.size m7 W → Calls Tryz.prog 19 #[.agg #[.slice (some ⟨w.heap.size + 1, 0, none⟩) 1 1, .int .i64 0, .int .i64 2, .int .i64 0, .int .i64 2, .int .i64 0, .int .i64 0]] W fun e w' => e = .returned (.int .i64 1) ∧ Below W.heap.size W w') := Lib.hid fun W hW => by
    have := styBits_any (.slice (some ⟨w.heap.size + 1, 0, none⟩) 1 1) exE W _ (HD7.out.below (rdLin_stable _) hW) (HE.out _ (below_from HB7.out hW)) (exL_small _ _ (by decide) (by decide)).1 (exL_small _ _ (by decide) (by decide)).2
    rw [exE_bits] at this
    exact this
  have HBf : Hid (∀ W, Below m7.heap.size m7 W → Calls Tryz.prog 19 #[.agg #[.slice x7 1 y7, .int .i64 0, .int .i64 2, .int .i64 0, .int .i64 2, .int .i64 0, .int .i64 1]] W fun e w' => e = .returned (.int .i64 0) ∧ Below W.heap.size W w') := Lib.hid fun W hW => by
    have := styBits_any _ exF W _ ((HR7_7.out.read).below (rdLin_stable _) hW) (HE.out _ (below_from HB7.out hW)) (exL_small _ _ (by decide) (by decide)).1 (exL_small _ _ (by decide) (by decide)).2
    rw [exF_bits] at this
    exact this
  have HX2 := Lib.hid (exL_at HR2_7.out)
  have HX3 := Lib.hid (exL_at HR3_7.out)
  obtain ⟨q2, g2⟩ := blk HN2_7.out
  obtain ⟨q3, g3⟩ := blk HN3_7.out
  obtain ⟨q4, g4⟩ := blk HN4_7.out
  obtain ⟨q7, g7⟩ := blk HN7_7.out
  obtain ⟨p2, o2, n2, la2, lc2, p3, o3, n3, he2, _, _, _, a2, b2, _, hn2, hn3, hn4, hn5⟩ := HX2.out
  cases he2
  obtain ⟨p4, o4, n6, la4, lc4, p5, o5, n7, he4, _, _, _, a4, _, b5, hn6, hn7, hn8, hn9⟩ := HX3.out
  cases he4
  unfold maxLen at hn2 hn3 hn6 hn7
  clear HX2 HX3
  go_wp2_with fail
  with_reducible refine HHr.out.mono ?_
  rintro e w8 ⟨rfl, hb8⟩
  obtain ⟨s1, t1⟩ := blk (heap_below hb8 HK7.out)
  obtain ⟨s2, t2⟩ := blk (heap_below hb8 HN7_7.out)
  go_wp2_with fail
  with_reducible refine (HBe.out _ hb8).mono ?_
  rintro e w9 ⟨rfl, hst9⟩
  have hb9 := below_from hb8 hst9
  obtain ⟨s3, t3⟩ := blk (heap_below hb9 HN7_7.out)
  go_wp2_with fail
  with_reducible refine (HBf.out _ hb9).mono ?_
  rintro e w10 ⟨rfl, hst10⟩
  have hb10 := below_from hb9 hst10
  go_wp2_with fail
  go_ret
  exact ⟨rfl, below_from HB7.out hb10⟩
end Go.Proofs.YtpndnbjpnajaaaaGreatDoor
namespace Go.Proofs.YtpndnbjpnajaaaaGreatDoor
open Go.RowKit
open Go.Proofs.Qw
theorem long24_any (v : Value) (s : St) (w : World) (S : Nat → Prop) (h : LinsR w S v s.lines) (hs : Sane s.lines) :
    Calls Tryz.prog 17 #[stV v s] w (LongSaid s.lines w) := by
  obtain ⟨W1, hW1, hB, hz, k0⟩ := one_st w v s
  have HC := Lib.hid (refLong_any v s.lines W1 S (h.below (rdLin_stable _) hB) hs)
  have H1 := Lib.hid hB
  have hs1 := hB.size
  obtain ⟨p0, f0⟩ := blk k0
  obtain ⟨va, vc, rfl⟩ := h.slice
  clear h hs k0 hB
  go_enter Tryz.func17, Tryz.ntmps17
  go_wp2_with (go_at_call 74; refine HC.out.mono ?_; rintro e w1 ⟨r, rfl, hr, hb⟩)
  go_ret
  exact ⟨r, rfl, hr, H1.out.trans (hb.mono hs1)⟩
end Go.Proofs.YtpndnbjpnajaaaaGreatDoor
namespace Go.Proofs.YtpndnbjpnajaaaaGreatDoor
open Go.RowKit
open Go.Proofs.Qw
attribute [local go_sem] Oper.semAt_some
set_option maxRecDepth 100000 in
set_option maxHeartbeats 8000000 in
theorem lawStLinks_any (v : Value) (s : St) (hr : List UInt8) (w : World) (S : Nat → Prop) (h : LinsR w S v s.lines) (sn : Sane s.lines) (he : EnvT w) :
    Calls Tryz.prog 7 #[stV v s, .string ⟨hr.toArray⟩] w fun e w' => e = .returned (.bool true) ∧ Below w.heap.size w w' := by
  obtain ⟨W1, hW1, hB, hz, k0⟩ := one_st w v s
  have HB : Hid (∀ W, Below W1.heap.size W1 W → W.heap[w.heap.size]? = some (.cells #[v, .int .i64 s.anc.line, .int .i64 s.anc.col, .int .i64 s.foc.line, .int .i64 s.foc.col, .int .i64 s.on, .int .i64 s.off] 26)) := Lib.hid fun W hW => heap_below hW k0
  have hs1 := hB.size
  have H1 := Lib.hid hB
  have hw0 : Below W1.heap.size W1 W1 := Below.refl _ _
  have HV : Hid (∀ W, Below W1.heap.size W1 W → LinsR W S v s.lines) := Lib.hid fun W hW => h.below (rdLin_stable _) (hB.trans (hW.mono hs1))
  have HE : Hid (∀ W, Below W1.heap.size W1 W → EnvT W) := Lib.hid fun W hW => (he.below hB).below hW
  have HLo := Lib.hid (long24_any v s W1 S (HV.out _ hw0) sn)
  have HA : Hid (∀ W, Below W1.heap.size W1 W → Calls Tryz.prog 18 #[] W fun e w' => e = .returned (.bool true) ∧ Below W.heap.size W w') := Lib.hid fun W hW => awake24_any W (HE.out W hW)
  have HM : Hid (Small s.lines → ∀ W, Below W1.heap.size W1 W → Calls Tryz.prog 27 #[stV v s] W fun e w' => e = .returned (.bool (mayS s)) ∧ Below W.heap.size W w') := Lib.hid fun hs W hW => stMay_any v s W S (HV.out W hW) (HE.out W hW) hs
  obtain ⟨p0, f0⟩ := blk k0
  obtain ⟨va, vc, hve⟩ := h.slice
  subst hve
  clear h sn he k0 hB
  by_cases hlen : 1000 < hr.length
  · have hl1 : (1000 : Int) < (hr.length : Int) := by omega
    clear hlen
    go_enter Tryz.func7, Tryz.ntmps7
    go_wp2_with fail
    refine HLo.out.mono ?_
    rintro e w1 ⟨r, rfl, _, hb1⟩
    cases r
    all_goals
      go_wp2_with fail
      refine (HA.out _ hb1).mono ?_
      rintro e w2 ⟨rfl, hst2⟩
      go_wp2_with fail
      go_ret
      exact ⟨rfl, H1.out.trans ((below_from hb1 hst2).mono hs1)⟩
  have hl1 : (hr.length : Int) ≤ 1000 := by omega
  have hh : hr.length ≤ 1000000 := by omega
  have HH := Lib.hid hh
  clear hlen hh
  go_enter Tryz.func7, Tryz.ntmps7
  go_wp2_with fail
  refine HLo.out.mono ?_
  rintro e w1 ⟨r, rfl, hr1, hb1⟩
  have HRS := Lib.hid hr1
  clear hr1
  cases r
  rotate_left 1
  · go_wp2_with fail
    refine (HA.out _ hb1).mono ?_
    rintro e w2 ⟨rfl, hst2⟩
    go_wp2_with fail
    go_ret
    exact ⟨rfl, H1.out.trans ((below_from hb1 hst2).mono hs1)⟩
  have HSF : Hid (Small s.lines ∧ Fits s.lines) := Lib.hid ⟨(HRS.out rfl).small, (HRS.out rfl).fits⟩
  clear p0 f0
  obtain ⟨p0, f0⟩ := blk (HB.out _ hb1)
  go_wp2_with fail
  refine (HM.out HSF.out.1 _ hb1).mono ?_
  rintro e w2 ⟨rfl, hst2⟩
  have hb2 := below_from hb1 hst2
  cases hm : mayS s
  · go_wp2_with fail
    refine (HA.out _ hb2).mono ?_
    rintro e w3 ⟨rfl, hst3⟩
    go_wp2_with fail
    go_ret
    exact ⟨rfl, H1.out.trans ((below_from hb2 hst3).mono hs1)⟩
  have HMy := Lib.hid hm
  clear hm p0 f0 hst2
  have HL : Hid (∀ W, Below W1.heap.size W1 W → Calls Tryz.prog 30 #[stV (.slice va s.lines.length vc) s, .string ⟨hr.toArray⟩] W (StSaid (changedS s (linkL s hr)) W)) := Lib.hid fun W hW => styLink_any _ s hr W S (HV.out W hW) (HE.out W hW) HSF.out.1 HSF.out.2 HH.out
  have HU : Hid (∀ W, Below W1.heap.size W1 W → Calls Tryz.prog 37 #[stV (.slice va s.lines.length vc) s] W (StSaid (changedS s (unlinkL s)) W)) := Lib.hid fun W hW => styUnlink_any _ s W S (HV.out W hW) (HE.out W hW) HSF.out.1 HSF.out.2
  have HP : Hid (∀ W, Below W1.heap.size W1 W → Calls Tryz.prog 31 #[stV (.slice va s.lines.length vc) s] W (StSaid (changedS s (plainL s)) W)) := Lib.hid fun W hW => styPlain_any _ s W S (HV.out W hW) (HE.out W hW) HSF.out.1 HSF.out.2
  have HHs : Hid (∀ W, Below W1.heap.size W1 W → Calls Tryz.prog 25 #[stV (.slice va s.lines.length vc) s] W fun e w' => e = .returned (.string ⟨(hrefS s).toArray⟩) ∧ Below W.heap.size W w') := Lib.hid fun W hW => styHref_any _ s W S (HV.out W hW) (HE.out W hW) HSF.out.1 HSF.out.2
  have GU : Hid (∀ (u : Value) (a : St) W (T : Nat → Prop) (n : Nat), mayS a = true → Below W1.heap.size W1 W → DocR true W T u a.lines → Calls Tryz.prog 37 #[stV u a] W (StSaid (changedS a (unlinkL a)) W)) := Lib.hid fun u a W T n hm hW hd => styUnlink_any u a W _ (DocR.read hd) (HE.out W hW) (may_small (mayS_at hm).1).1 (may_small (mayS_at hm).1).2
  have GP : Hid (∀ (u : Value) (a : St) W (T : Nat → Prop) (n : Nat), mayS a = true → Below W1.heap.size W1 W → DocR true W T u a.lines → Calls Tryz.prog 31 #[stV u a] W (StSaid (changedS a (plainL a)) W)) := Lib.hid fun u a W T n hm hW hd => styPlain_any u a W _ (DocR.read hd) (HE.out W hW) (may_small (mayS_at hm).1).1 (may_small (mayS_at hm).1).2
  have GH : Hid (∀ (u : Value) (a : St) W (T : Nat → Prop) (n : Nat), mayS a = true → Below W1.heap.size W1 W → DocR true W T u a.lines → Calls Tryz.prog 25 #[stV u a] W fun e w' => e = .returned (.string ⟨(hrefS a).toArray⟩) ∧ Below W.heap.size W w') := Lib.hid fun u a W T n hm hW hd => styHref_any u a W _ (DocR.read hd) (HE.out W hW) (may_small (mayS_at hm).1).1 (may_small (mayS_at hm).1).2
  have GB : Hid (∀ (u : Value) (a : St) W (T : Nat → Prop) (n : Nat), mayS a = true → Below W1.heap.size W1 W → DocR true W T u a.lines → Calls Tryz.prog 19 #[stV u a] W fun e w' => e = .returned (.int .i64 (bitsS a)) ∧ Below W.heap.size W w') := Lib.hid fun u a W T n hm hW hd => styBits_any u a W _ (DocR.read hd) (HE.out W hW) (may_small (mayS_at hm).1).1 (may_small (mayS_at hm).1).2
  obtain ⟨p3, f3⟩ := blk (HB.out _ hb2)
  obtain ⟨X3, hX3⟩ : ∃ X, changedS s (linkL s hr) = X := ⟨_, rfl⟩
  have HX3 := Lib.hid hX3
  have HC3 := Lib.hid (HL.out _ hb2)
  rw [hX3] at HC3
  clear hX3
  go_upto_if 37 with ((go_at_call 30; (with_reducible refine HC3.out.mono ?_); intro e w3 hsaid; obtain ⟨v3, rfl, hv3, hst3⟩ := hsaid; obtain ⟨x3, y3, hve3⟩ := hv3.slice; subst hve3; have hb3 := below_from hb2 hst3; have HD3 := Lib.hid hv3; clear hv3; obtain ⟨o3, u3⟩ := blk (HB.out _ hb3); have r3 := on1 (HB.out _ hb3); have hz3 := hb3.size; have e3 : ¬ w3.heap.size = w.heap.size := (by omega)))
  obtain ⟨m3, hm3⟩ : ∃ m3, w3.alloc (.cells #[.slice x3 X3.1.lines.length y3, .int .i64 X3.1.anc.line, .int .i64 X3.1.anc.col, .int .i64 X3.1.foc.line, .int .i64 X3.1.foc.col, .int .i64 X3.1.on, .int .i64 X3.1.off] 26) = m3 := ⟨_, rfl⟩
  rw [hm3]
  have hbm3 : Below w3.heap.size w3 m3 := hm3 ▸ below1 (Below.refl _ _) _
  have n3 : m3.heap[w3.heap.size]? = some (.cells #[.slice x3 X3.1.lines.length y3, .int .i64 X3.1.anc.line, .int .i64 X3.1.anc.col, .int .i64 X3.1.foc.line, .int .i64 X3.1.foc.col, .int .i64 X3.1.on, .int .i64 X3.1.off] 26) := hm3 ▸ heap_new _ _ rfl
  have hc3 := below_from hb3 hbm3
  have HE3 := Lib.hid (HD3.out.below hbm3)
  clear hm3
  clear p3 f3 o3 u3 r3 e3 hz3
  obtain ⟨z3, hz3⟩ : ∃ z, (X3.2 == 0) = z := ⟨_, rfl⟩
  try rw [hz3]
  have HZ3 := Lib.hid hz3
  clear hz3
  go_cut [7, 8] from 38 to 55 (fun _ _ wx => Below W1.heap.size W1 wx)
  case first => as_aux_lemma =>
    obtain ⟨a, er⟩ := X3
    cases z3
    rotate_left 1
    · have h0 : er = 0 := by simpa using HZ3.out
      subst h0
      obtain ⟨l1, l2, b, l3, l4, l5⟩ := link_law HMy.out HX3.out
      have HF := Lib.hid (And.intro l1 (And.intro l2 (And.intro l3 (And.intro l4 l5))))
      clear l1 l2 l3 l4 l5
      have HU4 := Lib.hid (GU.out _ a m3 _ 0 HF.out.1 hc3 HE3.out)
      rw [HF.out.2.2.1] at HU4
      obtain ⟨q3, g3⟩ := blk n3
      go_wp2_with fail
      with_reducible refine (HU4.out).mono ?_
      intro e w4 hsaid
      obtain ⟨v4, rfl, hv4, hst4⟩ := hsaid
      obtain ⟨x4, y4, hve4⟩ := hv4.slice
      subst hve4
      have hb4 := below_from hc3 hst4
      have HD4 := Lib.hid hv4
      clear hv4
      have n4o := heap_below hst4 n3
      obtain ⟨q4, g4⟩ := blk n4o
      have r4 := on1 n4o
      have hz4 := hst4.size
      have zm3 := hbm3.size
      have lt3 := (Array.getElem?_eq_some_iff.1 n3).1
      have e4 : ¬ w4.heap.size = w3.heap.size := by omega
      go_upto_region 6 with fail
      obtain ⟨m4, hm4⟩ : ∃ m4, w4.alloc (.cells #[.slice x4 b.lines.length y4, .int .i64 b.anc.line, .int .i64 b.anc.col, .int .i64 b.foc.line, .int .i64 b.foc.col, .int .i64 b.on, .int .i64 b.off] 26) = m4 := ⟨_, rfl⟩
      rw [hm4]
      have hbm4 : Below w4.heap.size w4 m4 := hm4 ▸ below1 (Below.refl _ _) _
      have n4 : m4.heap[w4.heap.size]? = some (.cells #[.slice x4 b.lines.length y4, .int .i64 b.anc.line, .int .i64 b.anc.col, .int .i64 b.foc.line, .int .i64 b.foc.col, .int .i64 b.on, .int .i64 b.off] 26) := hm4 ▸ heap_new _ _ rfl
      have hc4 := below_from hb4 hbm4
      have HE4 := Lib.hid (HD4.out.below hbm4)
      clear hm4
      have n5 := heap_below hbm4 n4o
      clear q3 g3 q4 g4 r4 e4
      obtain ⟨q3, g3⟩ := blk n5
      obtain ⟨q4, g4⟩ := blk n4
      have HH5 := Lib.hid (GH.out _ a m4 _ 0 HF.out.1 hc4 ((HE3.out.below hst4).below hbm4))
      rw [HF.out.2.1] at HH5
      go_wp2_with fail
      with_reducible refine HH5.out.mono ?_
      rintro e w5 ⟨rfl, hst5⟩
      have hb5 := below_from hc4 hst5
      have HH6 := Lib.hid (GH.out _ b w5 _ 0 HF.out.2.2.2.1 hb5 (HE4.out.below hst5))
      rw [HF.out.2.2.2.2] at HH6
      obtain ⟨q5, g5⟩ := blk (heap_below hst5 n4)
      go_wp2_with fail
      with_reducible refine HH6.out.mono ?_
      rintro e w6 ⟨rfl, hst6⟩
      have hb6 := below_from hb5 hst6
      go_wp2_with fail
      go_meet
      case rel => exact hb6
    · go_wp2_with fail
      go_meet
      case rel => exact hc3
  case rest =>
  have hbA := hcut
  obtain ⟨p7, f7⟩ := blk (HB.out _ hbA)
  obtain ⟨X7, hX7⟩ : ∃ X, changedS s (unlinkL s) = X := ⟨_, rfl⟩
  have HX7 := Lib.hid hX7
  have HC7 := Lib.hid (HU.out _ hbA)
  rw [hX7] at HC7
  clear hX7
  go_upto_region 9 with ((go_at_call 37; (with_reducible refine HC7.out.mono ?_); intro e w7 hsaid; obtain ⟨v7, rfl, hv7, hst7⟩ := hsaid; obtain ⟨x7, y7, hve7⟩ := hv7.slice; subst hve7; have hb7 := below_from hbA hst7; have HD7 := Lib.hid hv7; clear hv7; obtain ⟨o7, u7⟩ := blk (HB.out _ hb7); have r7 := on1 (HB.out _ hb7); have hz7 := hb7.size; have e7 : ¬ w7.heap.size = w.heap.size := (by omega)))
  obtain ⟨m7, hm7⟩ : ∃ m7, w7.alloc (.cells #[.slice x7 X7.1.lines.length y7, .int .i64 X7.1.anc.line, .int .i64 X7.1.anc.col, .int .i64 X7.1.foc.line, .int .i64 X7.1.foc.col, .int .i64 X7.1.on, .int .i64 X7.1.off] 26) = m7 := ⟨_, rfl⟩
  rw [hm7]
  have hbm7 : Below w7.heap.size w7 m7 := hm7 ▸ below1 (Below.refl _ _) _
  have n7 : m7.heap[w7.heap.size]? = some (.cells #[.slice x7 X7.1.lines.length y7, .int .i64 X7.1.anc.line, .int .i64 X7.1.anc.col, .int .i64 X7.1.foc.line, .int .i64 X7.1.foc.col, .int .i64 X7.1.on, .int .i64 X7.1.off] 26) := hm7 ▸ heap_new _ _ rfl
  have hc7 := below_from hb7 hbm7
  have HE7 := Lib.hid (HD7.out.below hbm7)
  clear hm7
  clear p7 f7 o7 u7 r7 e7 hz7
  obtain ⟨z7, hz7⟩ : ∃ z, (X7.2 == 0) = z := ⟨_, rfl⟩
  try rw [hz7]
  have HZ7 := Lib.hid hz7
  clear hz7
  have hg := guardPos
  have hq := fun (w : World) => run_neq_pos s.anc s.foc w
  obtain ⟨p7, f7⟩ := blk (HB.out _ hc7)
  obtain ⟨c7, hc7e⟩ : ∃ c, (z7 && !decide (s.anc = s.foc)) = c := ⟨_, rfl⟩
  have HC7 := Lib.hid hc7e
  clear hc7e
  go_cut [69] from 61 to 69 (fun r wx => r = .bool c7 ∧ wx = m7)
  case first => as_aux_lemma =>
    have hc7e := HC7.out
    cases z7
    · rw [Bool.false_and] at hc7e
      subst hc7e
      have hzz : (X7.2 == 0) = false := HZ7.out
      go_wp2_with fail
      go_meet
      case rel => exact ⟨rfl, rfl⟩
    · rw [Bool.true_and] at hc7e
      subst hc7e
      have hzz : (X7.2 == 0) = true := HZ7.out
      cases hd : decide (s.anc = s.foc)
      all_goals
        rw [hd] at hq
        have HD := Lib.hid hd
        clear hd
        go_wp2_with fail
        go_meet
        case rel => exact ⟨by rw [HD.out]; rfl, rfl⟩
  case rest =>
  obtain ⟨rfl, hwc⟩ := hcut
  rw [hwc]
  clear hwc
  go_upto_if 69 with fail
  go_cut [11, 12] from 70 to 81 (fun _ _ wx => Below W1.heap.size W1 wx)
  case first => as_aux_lemma =>
    obtain ⟨a, er⟩ := X7
    cases c7
    · go_wp2_with fail
      go_meet
      case rel => exact hc7
    · have hc7e := HC7.out
      rw [Bool.and_eq_true] at hc7e
      have h0 : er = 0 := by
        have := HZ7.out
        rw [hc7e.1] at this
        simpa using this
      subst h0
      have hc : ¬ s.anc = s.foc := by simpa using hc7e.2
      skip
      · obtain ⟨l1, l2, l3⟩ := unlink_law HMy.out HX7.out hc
        have HF := Lib.hid (And.intro l1 (And.intro l2 l3))
        clear hc7e
        clear l1 l2 l3 hc
        have HU8 := Lib.hid (GU.out _ a m7 _ 0 HF.out.1 hc7 HE7.out)
        rw [HF.out.2.2] at HU8
        obtain ⟨q7, g7⟩ := blk n7
        go_wp2_with fail
        with_reducible refine (HU8.out).mono ?_
        intro e w8 hsaid
        obtain ⟨v8, rfl, hv8, hst8⟩ := hsaid
        obtain ⟨x8, y8, hve8⟩ := hv8.slice
        subst hve8
        have hb8 := below_from hc7 hst8
        have HD8 := Lib.hid hv8
        clear hv8
        obtain ⟨q8, g8⟩ := blk (heap_below hst8 n7)
        have r8 := on1 (heap_below hst8 n7)
        have hz8 := hst8.size
        have lt7 := (Array.getElem?_eq_some_iff.1 n7).1
        have e8 : ¬ w8.heap.size = w7.heap.size := by omega
        go_upto_region 11 with fail
        obtain ⟨m8, hm8⟩ : ∃ m8, w8.alloc (.cells #[.slice x8 noS.lines.length y8, .int .i64 noS.anc.line, .int .i64 noS.anc.col, .int .i64 noS.foc.line, .int .i64 noS.foc.col, .int .i64 noS.on, .int .i64 noS.off] 26) = m8 := ⟨_, rfl⟩
        rw [hm8]
        have hbm8 : Below w8.heap.size w8 m8 := hm8 ▸ below1 (Below.refl _ _) _
        have n8 : m8.heap[w8.heap.size]? = some (.cells #[.slice x8 noS.lines.length y8, .int .i64 noS.anc.line, .int .i64 noS.anc.col, .int .i64 noS.foc.line, .int .i64 noS.foc.col, .int .i64 noS.on, .int .i64 noS.off] 26) := hm8 ▸ heap_new _ _ rfl
        have hc8 := below_from hb8 hbm8
        have HE8 := Lib.hid (HD8.out.below hbm8)
        clear hm8
        have HH9 := Lib.hid (GH.out _ a m8 _ 0 HF.out.1 hc8 ((HE7.out.below hst8).below hbm8))
        rw [HF.out.2.1] at HH9
        obtain ⟨q9, g9⟩ := blk (heap_below hbm8 (heap_below hst8 n7))
        clear q7 g7 q8 g8 r8 e8
        go_wp2_with fail
        with_reducible refine HH9.out.mono ?_
        rintro e w9 ⟨rfl, hst9⟩
        have hb9 := below_from hc8 hst9
        go_wp2_with fail
        go_meet
        case rel => exact hb9
  case rest =>
  have hbB := hcut
  clear hg hq p7 f7
  obtain ⟨p10, f10⟩ := blk (HB.out _ hbB)
  obtain ⟨X10, hX10⟩ : ∃ X, changedS s (plainL s) = X := ⟨_, rfl⟩
  have HX10 := Lib.hid hX10
  have HC10 := Lib.hid (HP.out _ hbB)
  rw [hX10] at HC10
  clear hX10
  go_upto_if 88 with ((go_at_call 31; (with_reducible refine HC10.out.mono ?_); intro e w10 hsaid; obtain ⟨v10, rfl, hv10, hst10⟩ := hsaid; obtain ⟨x10, y10, hve10⟩ := hv10.slice; subst hve10; have hb10 := below_from hbB hst10; have HD10 := Lib.hid hv10; clear hv10; obtain ⟨o10, u10⟩ := blk (HB.out _ hb10); have r10 := on1 (HB.out _ hb10); have hz10 := hb10.size; have e10 : ¬ w10.heap.size = w.heap.size := (by omega)))
  obtain ⟨m10, hm10⟩ : ∃ m10, w10.alloc (.cells #[.slice x10 X10.1.lines.length y10, .int .i64 X10.1.anc.line, .int .i64 X10.1.anc.col, .int .i64 X10.1.foc.line, .int .i64 X10.1.foc.col, .int .i64 X10.1.on, .int .i64 X10.1.off] 26) = m10 := ⟨_, rfl⟩
  rw [hm10]
  have hbm10 : Below w10.heap.size w10 m10 := hm10 ▸ below1 (Below.refl _ _) _
  have n10 : m10.heap[w10.heap.size]? = some (.cells #[.slice x10 X10.1.lines.length y10, .int .i64 X10.1.anc.line, .int .i64 X10.1.anc.col, .int .i64 X10.1.foc.line, .int .i64 X10.1.foc.col, .int .i64 X10.1.on, .int .i64 X10.1.off] 26) := hm10 ▸ heap_new _ _ rfl
  have hc10 := below_from hb10 hbm10
  have HE10 := Lib.hid (HD10.out.below hbm10)
  clear hm10
  clear p10 f10 o10 u10 r10 e10 hz10
  obtain ⟨z10, hz10⟩ : ∃ z, (X10.2 == 0) = z := ⟨_, rfl⟩
  try rw [hz10]
  have HZ10 := Lib.hid hz10
  clear hz10
  go_cut [15, 16] from 89 to 107 (fun _ _ wx => Below W1.heap.size W1 wx)
  case first => as_aux_lemma =>
    obtain ⟨a, er⟩ := X10
    cases z10
    · go_wp2_with fail
      go_meet
      case rel => exact hc10
    · have h0 : er = 0 := by simpa using HZ10.out
      subst h0
      obtain ⟨l1, l2, l3, l4⟩ := plain_law HMy.out HX10.out
      have HF := Lib.hid (And.intro l1 (And.intro l2 (And.intro l3 l4)))
      clear l1 l2 l3 l4
      have HU11 := Lib.hid (GP.out _ a m10 _ 0 HF.out.1 hc10 HE10.out)
      rw [HF.out.2.2.1] at HU11
      obtain ⟨q10, g10⟩ := blk n10
      go_wp2_with fail
      with_reducible refine (HU11.out).mono ?_
      intro e w11 hsaid
      obtain ⟨v11, rfl, hv11, hst11⟩ := hsaid
      obtain ⟨x11, y11, hve11⟩ := hv11.slice
      subst hve11
      have hb11 := below_from hc10 hst11
      have HD11 := Lib.hid hv11
      clear hv11
      go_upto_region 16 with fail
      obtain ⟨m11, hm11⟩ : ∃ m11, w11.alloc (.cells #[.slice x11 noS.lines.length y11, .int .i64 noS.anc.line, .int .i64 noS.anc.col, .int .i64 noS.foc.line, .int .i64 noS.foc.col, .int .i64 noS.on, .int .i64 noS.off] 26) = m11 := ⟨_, rfl⟩
      rw [hm11]
      have hbm11 : Below w11.heap.size w11 m11 := hm11 ▸ below1 (Below.refl _ _) _
      have n11 : m11.heap[w11.heap.size]? = some (.cells #[.slice x11 noS.lines.length y11, .int .i64 noS.anc.line, .int .i64 noS.anc.col, .int .i64 noS.foc.line, .int .i64 noS.foc.col, .int .i64 noS.on, .int .i64 noS.off] 26) := hm11 ▸ heap_new _ _ rfl
      have hc11 := below_from hb11 hbm11
      have HE11 := Lib.hid (HD11.out.below hbm11)
      clear hm11
      have n12 := heap_below hbm11 (heap_below hst11 n10)
      have HBi : Hid (∀ W, Below m11.heap.size m11 W → Calls Tryz.prog 19 #[stV (.slice x10 a.lines.length y10) a] W fun e w' => e = .returned (.int .i64 0) ∧ Below W.heap.size W w') := Lib.hid fun W hW => by
        have := GB.out _ a W _ 0 HF.out.1 (below_from hc11 hW) (((HE10.out.below hst11).below hbm11).below hW)
        rw [HF.out.2.1] at this
        exact this
      have HHa : Hid (∀ W, Below m11.heap.size m11 W → Calls Tryz.prog 25 #[stV (.slice x10 a.lines.length y10) a] W fun e w' => e = .returned (.string ⟨(hrefS s).toArray⟩) ∧ Below W.heap.size W w') := Lib.hid fun W hW => by
        have := GH.out _ a W _ 0 HF.out.1 (below_from hc11 hW) (((HE10.out.below hst11).below hbm11).below hW)
        rw [HF.out.2.2.2] at this
        exact this
      have HN := Lib.hid n12
      generalize hrefS s = hx at *
      clear q10 g10 n12
      refine wp_region_grew m11.heap.size (by kernel_rfl) (by kernel_rfl) ?_
      refine BigFrame.wpQuiet_want (by kernel_rfl) (fun K hK => ?_)
      refine quiet_val ?_ (fun W hW => ?_) (hK _ ?_)
      rotate_left 1
      · skip
        obtain ⟨p0, f0⟩ := blk (HB.out _ (below_from hc11 hW))
        obtain ⟨p3, f3⟩ := blk (heap_below hW HN.out)
        go_simp
        try rfl
      clear hK
      clear K
      try simp only [Act.put, List.setIfInBounds_toArray, List.set_cons_zero, List.set_cons_succ]
      refine BigFrame.wpQuiet_want (by kernel_rfl) (fun K hK => ?_)
      refine quiet_calls (f := ?_) (args := ?_) ?_ (fun W hW => ?_) (fun W hW => ?_) (hK _ ?_)
      rotate_left 3
      · go_simp
        constructor <;> rfl
      · refine (HBi.out _ hW).mono ?_
        rintro e W2 ⟨rfl, hbW⟩
        refine ⟨?_, below_from hW hbW⟩
        rfl
      clear hK
      clear K
      try simp only [Act.put, List.setIfInBounds_toArray, List.set_cons_zero, List.set_cons_succ]
      refine BigFrame.wpQuiet_want (by kernel_rfl) (fun K hK => ?_)
      refine quiet_val ?_ (fun W hW => ?_) (hK _ ?_)
      rotate_left 1
      · skip
        go_simp
        try rfl
      clear hK
      clear K
      try simp only [Act.put, List.setIfInBounds_toArray, List.set_cons_zero, List.set_cons_succ]
      refine BigFrame.wpQuiet_want (by kernel_rfl) (fun K hK => ?_)
      refine quiet_val ?_ (fun W hW => ?_) (hK _ ?_)
      rotate_left 1
      · skip
        go_simp
        try rfl
      clear hK
      clear K
      try simp only [Act.put, List.setIfInBounds_toArray, List.set_cons_zero, List.set_cons_succ]
      refine BigFrame.wpQuiet_want (by kernel_rfl) (fun K hK => ?_)
      refine quiet_val ?_ (fun W hW => ?_) (hK _ ?_)
      rotate_left 1
      · skip
        go_simp
        try rfl
      clear hK
      clear K
      try simp only [Act.put, List.setIfInBounds_toArray, List.set_cons_zero, List.set_cons_succ]
      refine BigFrame.wpQuiet_want (by kernel_rfl) (fun K hK => ?_)
      refine quiet_val ?_ (fun W hW => ?_) (hK _ ?_)
      rotate_left 1
      · skip
        go_simp
        try rfl
      clear hK
      clear K
      try simp only [Act.put, List.setIfInBounds_toArray, List.set_cons_zero, List.set_cons_succ]
      refine BigFrame.wpQuiet_want (by kernel_rfl) (fun K hK => ?_)
      refine quiet_val ?_ (fun W hW => ?_) (hK _ ?_)
      rotate_left 1
      · skip
        go_simp
        try rfl
      clear hK
      clear K
      try simp only [Act.put, List.setIfInBounds_toArray, List.set_cons_zero, List.set_cons_succ]
      refine BigFrame.wpQuiet_want (by kernel_rfl) (fun K hK => ?_)
      refine quiet_val ?_ (fun W hW => ?_) (hK _ ?_)
      rotate_left 1
      · skip
        go_simp
        try rfl
      clear hK
      clear K
      try simp only [Act.put, List.setIfInBounds_toArray, List.set_cons_zero, List.set_cons_succ]
      refine BigFrame.wpQuiet_want (by kernel_rfl) (fun K hK => ?_)
      refine quiet_val ?_ (fun W hW => ?_) (hK _ ?_)
      rotate_left 1
      · skip
        obtain ⟨p0, f0⟩ := blk (HB.out _ (below_from hc11 hW))
        obtain ⟨p3, f3⟩ := blk (heap_below hW HN.out)
        go_simp
        try rfl
      clear hK
      clear K
      try simp only [Act.put, List.setIfInBounds_toArray, List.set_cons_zero, List.set_cons_succ]
      refine BigFrame.wpQuiet_want (by kernel_rfl) (fun K hK => ?_)
      refine quiet_calls (f := ?_) (args := ?_) ?_ (fun W hW => ?_) (fun W hW => ?_) (hK _ ?_)
      rotate_left 3
      · go_simp
        constructor <;> rfl
      · refine (HHa.out _ hW).mono ?_
        rintro e W2 ⟨rfl, hbW⟩
        refine ⟨?_, below_from hW hbW⟩
        rfl
      clear hK
      clear K
      try simp only [Act.put, List.setIfInBounds_toArray, List.set_cons_zero, List.set_cons_succ]
      refine BigFrame.wpQuiet_want (by kernel_rfl) (fun K hK => ?_)
      refine quiet_val ?_ (fun W hW => ?_) (hK _ ?_)
      rotate_left 1
      · skip
        obtain ⟨p0, f0⟩ := blk (HB.out _ (below_from hc11 hW))
        obtain ⟨p3, f3⟩ := blk (heap_below hW HN.out)
        go_simp
        try rfl
      clear hK
      clear K
      try simp only [Act.put, List.setIfInBounds_toArray, List.set_cons_zero, List.set_cons_succ]
      refine BigFrame.wpQuiet_want (by kernel_rfl) (fun K hK => ?_)
      refine quiet_calls (f := ?_) (args := ?_) ?_ (fun W hW => ?_) (fun W hW => ?_) (hK _ ?_)
      rotate_left 3
      · go_simp
        constructor <;> rfl
      · refine (HHs.out _ (below_from hc11 hW)).mono ?_
        rintro e W2 ⟨rfl, hbW⟩
        refine ⟨?_, below_from hW hbW⟩
        rfl
      clear hK
      clear K
      try simp only [Act.put, List.setIfInBounds_toArray, List.set_cons_zero, List.set_cons_succ]
      refine BigFrame.wpQuiet_want (by kernel_rfl) (fun K hK => ?_)
      refine quiet_val ?_ (fun W hW => ?_) (hK _ ?_)
      rotate_left 1
      · skip
        go_simp
        try rfl
      clear hK
      clear K
      try simp only [Act.put, List.setIfInBounds_toArray, List.set_cons_zero, List.set_cons_succ]
      refine BigFrame.wpQuiet_want (by kernel_rfl) (fun K hK => ?_)
      refine quiet_val ?_ (fun W hW => ?_) (hK _ ?_)
      rotate_left 1
      · skip
        go_simp
        try rfl
      clear hK
      clear K
      try simp only [Act.put, List.setIfInBounds_toArray, List.set_cons_zero, List.set_cons_succ]
      refine wpQuiet_nil (fun X6 hstX6 => ?_)
      have hcX6 := below_from hc11 hstX6
      go_wp2_with fail
      go_meet
      case rel => exact hcX6
  case rest =>
  have hbC := hcut
  go_wp2_with fail
  with_reducible refine (HA.out _ hbC).mono ?_
  rintro e z2 ⟨rfl, hs2z⟩
  go_wp2_with fail
  go_ret
  exact ⟨rfl, H1.out.trans ((below_from hbC hs2z).mono hs1)⟩
theorem lawStLinks_str (v : Value) (s : St) (hr : ByteArray) (w : World) (S : Nat → Prop) (h : LinsR w S v s.lines) (sn : Sane s.lines) (he : EnvT w) :
    Calls Tryz.prog 7 #[stV v s, .string hr] w fun e w' => e = .returned (.bool true) ∧ Below w.heap.size w w' := by
  have := lawStLinks_any v s hr.data.toList w S h sn he
  rw [show (⟨hr.data.toList.toArray⟩ : ByteArray) = hr by simp] at this
  exact this
end Go.Proofs.YtpndnbjpnajaaaaGreatDoor
