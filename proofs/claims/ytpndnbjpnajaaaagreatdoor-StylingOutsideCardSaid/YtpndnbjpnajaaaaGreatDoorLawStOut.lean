/- What styling does: styling.Toggle. -/
import Derived.Test.YtpndnbjpnajaaaaGreatDoorStyToggle
import Derived.Test.YtpndnbjpnajaaaaGreatDoorLineSplit
import Derived.Test.YtpndnbjpnajaaaaGreatDoorLawPos
import Derived.Test.YtpndnbjpnajaaaaGreatDoorTells
import Derived.Test.YtpndnbjpnajaaaaGreatDoorDocPos
namespace Go.Proofs.YtpndnbjpnajaaaaGreatDoor
open Go.RowKit
open Go.Proofs.Qw
attribute [local go_sem] Oper.semAt_some
theorem set_st (w : World) (B : Nat) {x0 x1 x2 x3 x4 x5 x6 : Value} {t : TypeId} (h : w.heap[B]? = some (.cells #[x0, x1, x2, x3, x4, x5, x6] t)) (a b c d e f g : Value) :
    ∃ W, ((((((w.setCell ⟨B, 0, none⟩ a).setCell ⟨B, 1, none⟩ b).setCell ⟨B, 2, none⟩ c).setCell ⟨B, 3, none⟩ d).setCell ⟨B, 4, none⟩ e).setCell ⟨B, 5, none⟩ f).setCell ⟨B, 6, none⟩ g = W ∧
      W.heap[B]? = some (.cells #[a, b, c, d, e, f, g] t) ∧ (∀ n, n ≤ B → Below n w W) ∧ (∀ k, k ≠ B → W.heap[k]? = w.heap[k]?) ∧ W.heap.size = w.heap.size :=
  ⟨_, rfl, by simp [heap_set, putIn, h], fun n hn => (((((((Below.refl _ _).setCell hn _).setCell hn _).setCell hn _).setCell hn _).setCell hn _).setCell hn _).setCell hn _, fun k hk => by simp [heap_set, Ne.symm hk], by simp⟩
theorem slice_blk {α : Type} {t : TypeId} {k : Nat} {enc : α → List Value} (hk : ∀ x, (enc x).length = k) {w : World} {S : Nat → Prop} {b : Nat} (xs : List α) (h : w.heap[b]? = some (.cells (xs.map enc).flatten.toArray t)) (hS : S b) (hm : xs.length ≤ maxLen) {u : TypeId} :
    SliceR u k (rdOf enc) false w S (.slice (some ⟨b, 0, none⟩) xs.length xs.length) xs := by
  refine ⟨_, xs.length, rfl, Nat.le_refl _, hm, .inr ⟨b, 0, rfl, hS, (Array.getElem?_eq_some_iff.1 h).1, fun h => (by cases h), fun i x hx => ⟨enc x, hk x, rfl, fun j u hu => ?_⟩⟩⟩
  rw [cell_of_heap h, Nat.zero_add, List.getElem?_toArray]
  exact flatten_at (xs.map enc) i (enc x) j u (by simp; intro a _; exact hk a) (by rw [List.getElem?_map, hx]; rfl) hu
set_option maxRecDepth 100000 in
set_option maxHeartbeats 8000000 in
theorem styToggle_any (v : Value) (s : St) (t : Int) (w : World) (S : Nat → Prop) (h : LinsR w S v s.lines) (he : EnvT w) (hs : Small s.lines) (hf : Fits s.lines) :
    Calls Tryz.prog 29 #[stV v s, .int .i64 t] w (StSaid (toggleS s t) w) := by
  obtain ⟨W1, hW1, hB, hz, k0, k1, k2⟩ := st_val_st w v s (.int .i64 t) 3
  have HB : Hid (∀ W, Below W1.heap.size W1 W → W.heap[w.heap.size]? = some (.cells #[v, .int .i64 s.anc.line, .int .i64 s.anc.col, .int .i64 s.foc.line, .int .i64 s.foc.col, .int .i64 s.on, .int .i64 s.off] 26) ∧ W.heap[w.heap.size + 1]? = some (.cells #[.int .i64 t] 3) ∧ W.heap[w.heap.size + 2]? = some (.cells #[.slice none 0 0, .int .i64 0, .int .i64 0, .int .i64 0, .int .i64 0, .int .i64 0, .int .i64 0] 26)) := Lib.hid fun W hW => ⟨heap_below hW k0, heap_below hW k1, heap_below hW k2⟩
  have hs1 := hB.size
  have H1 := Lib.hid hB
  have hw0 : Below W1.heap.size W1 W1 := Below.refl _ _
  have HV : Hid (∀ W, Below W1.heap.size W1 W → LinsR W S v s.lines) := Lib.hid fun W hW => h.below (rdLin_stable _) (hB.trans (hW.mono hs1))
  have HE : Hid (∀ W, Below W1.heap.size W1 W → EnvT W) := Lib.hid fun W hW => (he.below hB).below hW
  have HM : Hid (∀ W, Below W1.heap.size W1 W → Calls Tryz.prog 27 #[stV v s] W fun e w' => e = .returned (.bool (mayS s)) ∧ Below W.heap.size W w') := Lib.hid fun W hW => stMay_any v s W S (HV.out W hW) (HE.out W hW) hs
  have HO : Hid (∀ W, Below W1.heap.size W1 W → Calls Tryz.prog 75 #[stV v s] W fun e w' => e = .returned (.bool (!decide (s.anc = s.foc))) ∧ Below W.heap.size W w') := Lib.hid fun W hW => styOpen_any v s W
  have HBi : Hid (∀ W, Below W1.heap.size W1 W → Calls Tryz.prog 19 #[stV v s] W fun e w' => e = .returned (.int .i64 (bitsS s)) ∧ Below W.heap.size W w') := Lib.hid fun W hW => styBits_any v s W S (HV.out W hW) (HE.out W hW) hs hf
  have HOw : Hid (∀ W, Below W1.heap.size W1 W → Calls Tryz.prog 41 #[stV v s] W fun e w' => ∃ v', e = .returned (stV v' s) ∧ DocR true w' (fun b => W.heap.size ≤ b) v' s.lines ∧ Below W.heap.size W w') := Lib.hid fun W hW => stOwn_any v s W S (HV.out W hW) hf
  have HCh : Hid (mayS s = true → ∀ W, Below W1.heap.size W1 W → Calls Tryz.prog 95 #[stV v s, .func (.func 96) #[] #[.pointer (some ⟨w.heap.size + 1, 0, none⟩)]] W (StSaid (staysS s (togD s t)) W)) := Lib.hid fun hm W hW => by
    have := styChanged_any v s 96 #[.pointer (some ⟨w.heap.size + 1, 0, none⟩)] (togD s t) W S (HV.out W hW) (HE.out W hW) hs (enters_of Tryz.func96 (by kernel_rfl) rfl)
      (fun _ X hX => styToggle1_any (w.heap.size + 1) v s.lines (spanS s).1 (spanS s).2 t X S (HV.out X (below_from hW hX)) (HE.out X (below_from hW hX)) hs hf (HB.out X (below_from hW hX)).2.1)
    unfold changedS at this
    rw [if_pos hm] at this
    exact this
  have HT : Hid (∀ W : World, Calls Tryz.prog 93 #[] W fun e w' => e = .returned (.agg #[.int .i64 1, .int .i64 2, .int .i64 4, .int .i64 8]) ∧ Below W.heap.size W w') := Lib.hid fun W => by
    go_enter Tryz.func93, Tryz.ntmps93
    go_wp2_with fail
    refine bodyPost_ret (results_cell_row rfl _ _ W.heap.size _ _ _ _ rfl (heap_new _ _ rfl) Tryz.underlying82 rfl (by kernel_rfl)) rfl ?_
    exact ⟨rfl, by (repeat' (first | (with_reducible exact Below.refl _ _) | (with_reducible assumption) | (with_reducible refine Below.alloc ?_ ?_ _) | (with_reducible refine Below.drew ?_) | (with_reducible refine drewN_below ?_) | (with_reducible refine Below.setCell ?_ ?_ _) | go_size))⟩
  have HR : Hid (toggleS s t = if mayS s = true ∧ four t = true then (if s.anc = s.foc then (togC s t, 0) else staysS s (togD s t)) else (noS, 1)) := Lib.hid rfl
  have HTC : Hid (togC s t = ⟨s.lines, s.anc, s.foc, bits .or .i64 (bits .andNot .i64 s.on t) (bits .andNot .i64 t (bitsS s)), bits .or .i64 (bits .andNot .i64 s.off t) (bits .andNot .i64 t (bits .andNot .i64 t (bitsS s)))⟩) := Lib.hid rfl
  obtain ⟨va, vc, rfl⟩ := h.slice
  clear h he hs hf hB
  obtain ⟨w2, hw2⟩ : ∃ w2, W1 = w2 := ⟨_, rfl⟩
  cases hm : mayS s
  · rw [hm] at HM HR
    have HR2 : Hid (toggleS s t = (noS, 1)) := Lib.hid (HR.out.trans (if_neg (by simp)))
    obtain ⟨p0, f0⟩ := blk k0
    clear HR HCh hm k0 k1 k2 hw2
    go_enter Tryz.func29, Tryz.ntmps29
    go_wp2_with (go_at_call 93; refine (HT.out _).mono ?_; rintro e w2 ⟨rfl, hst2⟩)
    have hb2 := below_from hw0 hst2
    obtain ⟨w3, hw3⟩ : ∃ w3, w2.alloc (.cells #[.int .i64 1, .int .i64 2, .int .i64 4, .int .i64 8] 82) = w3 := ⟨_, rfl⟩
    rw [hw3]
    have hb23 : Below w2.heap.size w2 w3 := hw3 ▸ below1 (Below.refl _ _) _
    have n3 : w3.heap[w2.heap.size]? = some (.cells #[.int .i64 1, .int .i64 2, .int .i64 4, .int .i64 8] 82) := hw3 ▸ heap_new _ _ rfl
    have hb3 := below_from hb2 hb23
    have HCt : Hid (∀ W, Below w3.heap.size w3 W → Calls Tryz.prog 94 #[.slice (some ⟨w2.heap.size, 0, none⟩) 4 4, .int .i64 t] W fun e w' => e = .returned (.bool (four t)) ∧ Below W.heap.size W w') := Lib.hid fun W hW => by
      have := containsInts_any _ [1, 2, 4, 8] t W (fun _ => True) (slice_blk (enc := encInt) (fun _ => rfl) [1, 2, 4, 8] (heap_below hW n3) trivial (by decide))
      rw [four_any] at this
      exact this.mono fun _ _ ⟨h1, h2⟩ => ⟨h1, h2 ▸ Below.refl _ _⟩
    clear hw3 n3 p0 f0
    refine wp_region_grew w3.heap.size (by kernel_rfl) (by kernel_rfl) ?_
    refine BigFrame.wpQuiet_want (by kernel_rfl) (fun K hK => ?_)
    refine quiet_val ?_ (fun W hW => ?_) (hK _ ?_)
    rotate_left 1
    · skip
      obtain ⟨p0, f0⟩ := blk (HB.out _ (below_from hb3 hW)).1
      obtain ⟨p1, f1⟩ := blk (HB.out _ (below_from hb3 hW)).2.1
      go_simp
      try rfl
    clear hK
    clear K
    try simp only [Act.put, List.setIfInBounds_toArray, List.set_cons_zero, List.set_cons_succ]
    refine BigFrame.wpQuiet_want (by kernel_rfl) (fun K hK => ?_)
    refine quiet_calls (f := ?_) (args := ?_) ?_ (fun W hW => ?_) (fun W hW => ?_) (hK _ ?_)
    rotate_left 3
    · go_simp
      constructor <;> rfl
    · refine (HM.out _ (below_from hb3 hW)).mono ?_
      rintro e W2 ⟨rfl, hbW⟩
      refine ⟨?_, below_from hW hbW⟩
      rfl
    clear hK
    clear K
    try simp only [Act.put, List.setIfInBounds_toArray, List.set_cons_zero, List.set_cons_succ]
    refine BigFrame.wpQuiet_want (by kernel_rfl) (fun K hK => ?_)
    refine quiet_val ?_ (fun W hW => ?_) (hK _ ?_)
    rotate_left 1
    · skip
      go_simp
      try rfl
    clear hK
    clear K
    try simp only [Act.put, List.setIfInBounds_toArray, List.set_cons_zero, List.set_cons_succ]
    refine BigFrame.wpQuiet_want (by kernel_rfl) (fun K hK => ?_)
    refine quiet_val ?_ (fun W hW => ?_) (hK _ ?_)
    rotate_left 1
    · skip
      go_simp
      try rfl
    clear hK
    clear K
    try simp only [Act.put, List.setIfInBounds_toArray, List.set_cons_zero, List.set_cons_succ]
    refine BigFrame.wpQuiet_skip (by kernel_rfl) ?_
    try simp only [Act.put, List.setIfInBounds_toArray, List.set_cons_zero, List.set_cons_succ]
    refine BigFrame.wpQuiet_skip (by kernel_rfl) ?_
    try simp only [Act.put, List.setIfInBounds_toArray, List.set_cons_zero, List.set_cons_succ]
    refine BigFrame.wpQuiet_skip (by kernel_rfl) ?_
    try simp only [Act.put, List.setIfInBounds_toArray, List.set_cons_zero, List.set_cons_succ]
    refine BigFrame.wpQuiet_skip (by kernel_rfl) ?_
    try simp only [Act.put, List.setIfInBounds_toArray, List.set_cons_zero, List.set_cons_succ]
    refine BigFrame.wpQuiet_want (by kernel_rfl) (fun K hK => ?_)
    refine quiet_val ?_ (fun W hW => ?_) (hK _ ?_)
    rotate_left 1
    · skip
      go_simp
      try rfl
    clear hK
    clear K
    try simp only [Act.put, List.setIfInBounds_toArray, List.set_cons_zero, List.set_cons_succ]
    refine BigFrame.wpQuiet_want (by kernel_rfl) (fun K hK => ?_)
    refine quiet_val ?_ (fun W hW => ?_) (hK _ ?_)
    rotate_left 1
    · skip
      go_simp
      try rfl
    clear hK
    clear K
    try simp only [Act.put, List.setIfInBounds_toArray, List.set_cons_zero, List.set_cons_succ]
    refine wpQuiet_nil (fun X6 hstX6 => ?_)
    have hcX6 := below_from hb3 hstX6
    obtain ⟨p2, f2⟩ := blk (HB.out _ hcX6).2.2
    go_wp2_with fail
    refine bodyPost_ret (results_st_e rfl _ _ (w.heap.size + 2) (.slice none 0 0) (.int .i64 0) (.int .i64 0) (.int .i64 0) (.int .i64 0) (.int .i64 0) (.int .i64 0) (.int .i64 1) rfl rfl (by simp [heap_set, putIn, (HB.out _ hcX6).2.2])) rfl ?_
    unfold StSaid
    rw [HR2.out]
    have hfin := H1.out.trans (hcX6.mono hs1)
    exact ⟨_, rfl, SliceR.nil _ _ _ _ _ _, by (repeat' (first | (with_reducible exact Below.refl _ _) | (with_reducible assumption) | (with_reducible refine Below.alloc ?_ ?_ _) | (with_reducible refine Below.drew ?_) | (with_reducible refine drewN_below ?_) | (with_reducible refine Below.setCell ?_ ?_ _) | go_size))⟩
  · have HCh2 := Lib.hid (HCh.out hm)
    rw [hm] at HM HR
    clear HCh hm hw2
    cases hfo : four t
    · rw [hfo] at HR
      have HF := Lib.hid hfo
      have HR2 : Hid (toggleS s t = (noS, 1)) := Lib.hid (HR.out.trans (if_neg (by simp)))
      obtain ⟨p0, f0⟩ := blk k0
      clear HR HCh2 hfo k0 k1 k2
      go_enter Tryz.func29, Tryz.ntmps29
      go_wp2_with (go_at_call 93; refine (HT.out _).mono ?_; rintro e w2 ⟨rfl, hst2⟩)
      have hb2 := below_from hw0 hst2
      obtain ⟨w3, hw3⟩ : ∃ w3, w2.alloc (.cells #[.int .i64 1, .int .i64 2, .int .i64 4, .int .i64 8] 82) = w3 := ⟨_, rfl⟩
      rw [hw3]
      have hb23 : Below w2.heap.size w2 w3 := hw3 ▸ below1 (Below.refl _ _) _
      have n3 : w3.heap[w2.heap.size]? = some (.cells #[.int .i64 1, .int .i64 2, .int .i64 4, .int .i64 8] 82) := hw3 ▸ heap_new _ _ rfl
      have hb3 := below_from hb2 hb23
      have HCt : Hid (∀ W, Below w3.heap.size w3 W → Calls Tryz.prog 94 #[.slice (some ⟨w2.heap.size, 0, none⟩) 4 4, .int .i64 t] W fun e w' => e = .returned (.bool (four t)) ∧ Below W.heap.size W w') := Lib.hid fun W hW => by
        have := containsInts_any _ [1, 2, 4, 8] t W (fun _ => True) (slice_blk (enc := encInt) (fun _ => rfl) [1, 2, 4, 8] (heap_below hW n3) trivial (by decide))
        rw [four_any] at this
        exact this.mono fun _ _ ⟨h1, h2⟩ => ⟨h1, h2 ▸ Below.refl _ _⟩
      clear hw3 n3 p0 f0
      rw [HF.out] at HCt
      refine wp_region_grew w3.heap.size (by kernel_rfl) (by kernel_rfl) ?_
      refine BigFrame.wpQuiet_want (by kernel_rfl) (fun K hK => ?_)
      refine quiet_val ?_ (fun W hW => ?_) (hK _ ?_)
      rotate_left 1
      · skip
        obtain ⟨p0, f0⟩ := blk (HB.out _ (below_from hb3 hW)).1
        obtain ⟨p1, f1⟩ := blk (HB.out _ (below_from hb3 hW)).2.1
        go_simp
        try rfl
      clear hK
      clear K
      try simp only [Act.put, List.setIfInBounds_toArray, List.set_cons_zero, List.set_cons_succ]
      refine BigFrame.wpQuiet_want (by kernel_rfl) (fun K hK => ?_)
      refine quiet_calls (f := ?_) (args := ?_) ?_ (fun W hW => ?_) (fun W hW => ?_) (hK _ ?_)
      rotate_left 3
      · go_simp
        constructor <;> rfl
      · refine (HM.out _ (below_from hb3 hW)).mono ?_
        rintro e W2 ⟨rfl, hbW⟩
        refine ⟨?_, below_from hW hbW⟩
        rfl
      clear hK
      clear K
      try simp only [Act.put, List.setIfInBounds_toArray, List.set_cons_zero, List.set_cons_succ]
      refine BigFrame.wpQuiet_want (by kernel_rfl) (fun K hK => ?_)
      refine quiet_val ?_ (fun W hW => ?_) (hK _ ?_)
      rotate_left 1
      · skip
        go_simp
        try rfl
      clear hK
      clear K
      try simp only [Act.put, List.setIfInBounds_toArray, List.set_cons_zero, List.set_cons_succ]
      refine BigFrame.wpQuiet_want (by kernel_rfl) (fun K hK => ?_)
      refine quiet_val ?_ (fun W hW => ?_) (hK _ ?_)
      rotate_left 1
      · skip
        go_simp
        try rfl
      clear hK
      clear K
      try simp only [Act.put, List.setIfInBounds_toArray, List.set_cons_zero, List.set_cons_succ]
      refine BigFrame.wpQuiet_want (by kernel_rfl) (fun K hK => ?_)
      refine quiet_val ?_ (fun W hW => ?_) (hK _ ?_)
      rotate_left 1
      · skip
        go_simp
        try rfl
      clear hK
      clear K
      try simp only [Act.put, List.setIfInBounds_toArray, List.set_cons_zero, List.set_cons_succ]
      refine BigFrame.wpQuiet_want (by kernel_rfl) (fun K hK => ?_)
      refine quiet_val ?_ (fun W hW => ?_) (hK _ ?_)
      rotate_left 1
      · skip
        obtain ⟨p0, f0⟩ := blk (HB.out _ (below_from hb3 hW)).1
        obtain ⟨p1, f1⟩ := blk (HB.out _ (below_from hb3 hW)).2.1
        go_simp
        try rfl
      clear hK
      clear K
      try simp only [Act.put, List.setIfInBounds_toArray, List.set_cons_zero, List.set_cons_succ]
      refine BigFrame.wpQuiet_want (by kernel_rfl) (fun K hK => ?_)
      refine quiet_calls (f := ?_) (args := ?_) ?_ (fun W hW => ?_) (fun W hW => ?_) (hK _ ?_)
      rotate_left 3
      · go_simp
        constructor <;> rfl
      · refine (HCt.out _ hW).mono ?_
        rintro e W2 ⟨rfl, hbW⟩
        refine ⟨?_, below_from hW hbW⟩
        rfl
      clear hK
      clear K
      try simp only [Act.put, List.setIfInBounds_toArray, List.set_cons_zero, List.set_cons_succ]
      refine BigFrame.wpQuiet_want (by kernel_rfl) (fun K hK => ?_)
      refine quiet_val ?_ (fun W hW => ?_) (hK _ ?_)
      rotate_left 1
      · skip
        go_simp
        try rfl
      clear hK
      clear K
      try simp only [Act.put, List.setIfInBounds_toArray, List.set_cons_zero, List.set_cons_succ]
      refine BigFrame.wpQuiet_want (by kernel_rfl) (fun K hK => ?_)
      refine quiet_val ?_ (fun W hW => ?_) (hK _ ?_)
      rotate_left 1
      · skip
        go_simp
        try rfl
      clear hK
      clear K
      try simp only [Act.put, List.setIfInBounds_toArray, List.set_cons_zero, List.set_cons_succ]
      refine BigFrame.wpQuiet_want (by kernel_rfl) (fun K hK => ?_)
      refine quiet_val ?_ (fun W hW => ?_) (hK _ ?_)
      rotate_left 1
      · skip
        go_simp
        try rfl
      clear hK
      clear K
      try simp only [Act.put, List.setIfInBounds_toArray, List.set_cons_zero, List.set_cons_succ]
      refine wpQuiet_nil (fun X6 hstX6 => ?_)
      have hcX6 := below_from hb3 hstX6
      obtain ⟨p2, f2⟩ := blk (HB.out _ hcX6).2.2
      go_wp2_with fail
      refine bodyPost_ret (results_st_e rfl _ _ (w.heap.size + 2) (.slice none 0 0) (.int .i64 0) (.int .i64 0) (.int .i64 0) (.int .i64 0) (.int .i64 0) (.int .i64 0) (.int .i64 1) rfl rfl (by simp [heap_set, putIn, (HB.out _ hcX6).2.2])) rfl ?_
      unfold StSaid
      rw [HR2.out]
      have hfin := H1.out.trans (hcX6.mono hs1)
      exact ⟨_, rfl, SliceR.nil _ _ _ _ _ _, by (repeat' (first | (with_reducible exact Below.refl _ _) | (with_reducible assumption) | (with_reducible refine Below.alloc ?_ ?_ _) | (with_reducible refine Below.drew ?_) | (with_reducible refine drewN_below ?_) | (with_reducible refine Below.setCell ?_ ?_ _) | go_size))⟩
    · rw [hfo] at HR
      have HF := Lib.hid hfo
      rw [if_pos ⟨rfl, rfl⟩] at HR
      by_cases hc : s.anc = s.foc
      · have HR2 : Hid (toggleS s t = (togC s t, 0)) := Lib.hid (HR.out.trans (if_pos hc))
        rw [decide_eq_true hc] at HO
        obtain ⟨p0, f0⟩ := blk k0
        obtain ⟨r, hr⟩ : ∃ r, bitsS s = r := ⟨_, rfl⟩
        rw [hr] at HBi HTC
        clear HR HCh2 hfo hc hr k0 k1 k2
        go_enter Tryz.func29, Tryz.ntmps29
        go_wp2_with (go_at_call 93; refine (HT.out _).mono ?_; rintro e w2 ⟨rfl, hst2⟩)
        have hb2 := below_from hw0 hst2
        obtain ⟨w3, hw3⟩ : ∃ w3, w2.alloc (.cells #[.int .i64 1, .int .i64 2, .int .i64 4, .int .i64 8] 82) = w3 := ⟨_, rfl⟩
        rw [hw3]
        have hb23 : Below w2.heap.size w2 w3 := hw3 ▸ below1 (Below.refl _ _) _
        have n3 : w3.heap[w2.heap.size]? = some (.cells #[.int .i64 1, .int .i64 2, .int .i64 4, .int .i64 8] 82) := hw3 ▸ heap_new _ _ rfl
        have hb3 := below_from hb2 hb23
        have HCt : Hid (∀ W, Below w3.heap.size w3 W → Calls Tryz.prog 94 #[.slice (some ⟨w2.heap.size, 0, none⟩) 4 4, .int .i64 t] W fun e w' => e = .returned (.bool (four t)) ∧ Below W.heap.size W w') := Lib.hid fun W hW => by
          have := containsInts_any _ [1, 2, 4, 8] t W (fun _ => True) (slice_blk (enc := encInt) (fun _ => rfl) [1, 2, 4, 8] (heap_below hW n3) trivial (by decide))
          rw [four_any] at this
          exact this.mono fun _ _ ⟨h1, h2⟩ => ⟨h1, h2 ▸ Below.refl _ _⟩
        clear hw3 n3 p0 f0
        rw [HF.out] at HCt
        refine wp_region_grew w3.heap.size (by kernel_rfl) (by kernel_rfl) ?_
        refine BigFrame.wpQuiet_want (by kernel_rfl) (fun K hK => ?_)
        refine quiet_val ?_ (fun W hW => ?_) (hK _ ?_)
        rotate_left 1
        · skip
          obtain ⟨p0, f0⟩ := blk (HB.out _ (below_from hb3 hW)).1
          obtain ⟨p1, f1⟩ := blk (HB.out _ (below_from hb3 hW)).2.1
          go_simp
          try rfl
        clear hK
        clear K
        try simp only [Act.put, List.setIfInBounds_toArray, List.set_cons_zero, List.set_cons_succ]
        refine BigFrame.wpQuiet_want (by kernel_rfl) (fun K hK => ?_)
        refine quiet_calls (f := ?_) (args := ?_) ?_ (fun W hW => ?_) (fun W hW => ?_) (hK _ ?_)
        rotate_left 3
        · go_simp
          constructor <;> rfl
        · refine (HM.out _ (below_from hb3 hW)).mono ?_
          rintro e W2 ⟨rfl, hbW⟩
          refine ⟨?_, below_from hW hbW⟩
          rfl
        clear hK
        clear K
        try simp only [Act.put, List.setIfInBounds_toArray, List.set_cons_zero, List.set_cons_succ]
        refine BigFrame.wpQuiet_want (by kernel_rfl) (fun K hK => ?_)
        refine quiet_val ?_ (fun W hW => ?_) (hK _ ?_)
        rotate_left 1
        · skip
          go_simp
          try rfl
        clear hK
        clear K
        try simp only [Act.put, List.setIfInBounds_toArray, List.set_cons_zero, List.set_cons_succ]
        refine BigFrame.wpQuiet_want (by kernel_rfl) (fun K hK => ?_)
        refine quiet_val ?_ (fun W hW => ?_) (hK _ ?_)
        rotate_left 1
        · skip
          go_simp
          try rfl
        clear hK
        clear K
        try simp only [Act.put, List.setIfInBounds_toArray, List.set_cons_zero, List.set_cons_succ]
        refine BigFrame.wpQuiet_want (by kernel_rfl) (fun K hK => ?_)
        refine quiet_val ?_ (fun W hW => ?_) (hK _ ?_)
        rotate_left 1
        · skip
          go_simp
          try rfl
        clear hK
        clear K
        try simp only [Act.put, List.setIfInBounds_toArray, List.set_cons_zero, List.set_cons_succ]
        refine BigFrame.wpQuiet_want (by kernel_rfl) (fun K hK => ?_)
        refine quiet_val ?_ (fun W hW => ?_) (hK _ ?_)
        rotate_left 1
        · skip
          obtain ⟨p0, f0⟩ := blk (HB.out _ (below_from hb3 hW)).1
          obtain ⟨p1, f1⟩ := blk (HB.out _ (below_from hb3 hW)).2.1
          go_simp
          try rfl
        clear hK
        clear K
        try simp only [Act.put, List.setIfInBounds_toArray, List.set_cons_zero, List.set_cons_succ]
        refine BigFrame.wpQuiet_want (by kernel_rfl) (fun K hK => ?_)
        refine quiet_calls (f := ?_) (args := ?_) ?_ (fun W hW => ?_) (fun W hW => ?_) (hK _ ?_)
        rotate_left 3
        · go_simp
          constructor <;> rfl
        · refine (HCt.out _ hW).mono ?_
          rintro e W2 ⟨rfl, hbW⟩
          refine ⟨?_, below_from hW hbW⟩
          rfl
        clear hK
        clear K
        try simp only [Act.put, List.setIfInBounds_toArray, List.set_cons_zero, List.set_cons_succ]
        refine BigFrame.wpQuiet_want (by kernel_rfl) (fun K hK => ?_)
        refine quiet_val ?_ (fun W hW => ?_) (hK _ ?_)
        rotate_left 1
        · skip
          go_simp
          try rfl
        clear hK
        clear K
        try simp only [Act.put, List.setIfInBounds_toArray, List.set_cons_zero, List.set_cons_succ]
        refine BigFrame.wpQuiet_want (by kernel_rfl) (fun K hK => ?_)
        refine quiet_val ?_ (fun W hW => ?_) (hK _ ?_)
        rotate_left 1
        · skip
          go_simp
          try rfl
        clear hK
        clear K
        try simp only [Act.put, List.setIfInBounds_toArray, List.set_cons_zero, List.set_cons_succ]
        refine BigFrame.wpQuiet_want (by kernel_rfl) (fun K hK => ?_)
        refine quiet_val ?_ (fun W hW => ?_) (hK _ ?_)
        rotate_left 1
        · skip
          go_simp
          try rfl
        clear hK
        clear K
        try simp only [Act.put, List.setIfInBounds_toArray, List.set_cons_zero, List.set_cons_succ]
        refine wpQuiet_nil (fun X6 hstX6 => ?_)
        have hcX6 := below_from hb3 hstX6
        obtain ⟨p0, f0⟩ := blk (HB.out _ hcX6).1
        go_wp2_with (go_at_call 75; refine (HO.out _ hcX6).mono ?_; rintro e w7 ⟨rfl, hst7⟩; have hb7 := below_from hcX6 hst7; skip)
        clear p0 f0
        refine wp_region_grew w7.heap.size (by kernel_rfl) (by kernel_rfl) ?_
        refine BigFrame.wpQuiet_want (by kernel_rfl) (fun K hK => ?_)
        refine quiet_val ?_ (fun W hW => ?_) (hK _ ?_)
        rotate_left 1
        · skip
          obtain ⟨p0, f0⟩ := blk (HB.out _ (below_from hb7 hW)).1
          obtain ⟨p1, f1⟩ := blk (HB.out _ (below_from hb7 hW)).2.1
          go_simp
          try rfl
        clear hK
        clear K
        try simp only [Act.put, List.setIfInBounds_toArray, List.set_cons_zero, List.set_cons_succ]
        refine BigFrame.wpQuiet_want (by kernel_rfl) (fun K hK => ?_)
        refine quiet_val ?_ (fun W hW => ?_) (hK _ ?_)
        rotate_left 1
        · skip
          obtain ⟨p0, f0⟩ := blk (HB.out _ (below_from hb7 hW)).1
          obtain ⟨p1, f1⟩ := blk (HB.out _ (below_from hb7 hW)).2.1
          go_simp
          try rfl
        clear hK
        clear K
        try simp only [Act.put, List.setIfInBounds_toArray, List.set_cons_zero, List.set_cons_succ]
        refine BigFrame.wpQuiet_want (by kernel_rfl) (fun K hK => ?_)
        refine quiet_calls (f := ?_) (args := ?_) ?_ (fun W hW => ?_) (fun W hW => ?_) (hK _ ?_)
        rotate_left 3
        · go_simp
          constructor <;> rfl
        · refine (HBi.out _ (below_from hb7 hW)).mono ?_
          rintro e W2 ⟨rfl, hbW⟩
          refine ⟨?_, below_from hW hbW⟩
          rfl
        clear hK
        clear K
        try simp only [Act.put, List.setIfInBounds_toArray, List.set_cons_zero, List.set_cons_succ]
        refine BigFrame.wpQuiet_want (by kernel_rfl) (fun K hK => ?_)
        refine quiet_val ?_ (fun W hW => ?_) (hK _ ?_)
        rotate_left 1
        · skip
          go_simp
          try rfl
        clear hK
        clear K
        try simp only [Act.put, List.setIfInBounds_toArray, List.set_cons_zero, List.set_cons_succ]
        refine BigFrame.wpQuiet_want (by kernel_rfl) (fun K hK => ?_)
        refine quiet_val ?_ (fun W hW => ?_) (hK _ ?_)
        rotate_left 1
        · skip
          go_simp
          try rfl
        clear hK
        clear K
        try simp only [Act.put, List.setIfInBounds_toArray, List.set_cons_zero, List.set_cons_succ]
        refine wpQuiet_nil (fun X8 hstX8 => ?_)
        have hcX8 := below_from hb7 hstX8
        obtain ⟨p0, f0⟩ := blk (HB.out _ hcX8).1
        go_wp2_with (go_at_call 41; refine (HOw.out _ hcX8).mono ?_; rintro e w9 ⟨v9, rfl, hv9, hst9⟩; obtain ⟨a9, c9, rfl⟩ := hv9.slice; have hb9 := below_from hcX8 hst9; have HV9 := Lib.hid hv9; clear hv9; obtain ⟨q0, g0⟩ := blk (HB.out _ hb9).1)
        obtain ⟨w10, hw10, n10, b10, o10, z10⟩ := set_st w9 w.heap.size (HB.out _ hb9).1 (.slice a9 s.lines.length c9) (.int .i64 s.anc.line) (.int .i64 s.anc.col) (.int .i64 s.foc.line) (.int .i64 s.foc.col) (.int .i64 s.on) (.int .i64 s.off)
        rw [hw10]
        have HX10 := Lib.hid (And.intro n10 (And.intro ((o10 (w.heap.size + 1) (by omega)).trans (HB.out _ hb9).2.1) (And.intro ((o10 (w.heap.size + 2) (by omega)).trans (HB.out _ hb9).2.2) (And.intro b10 (And.intro o10 z10)))))
        clear hw10 q0 g0 n10 b10 o10 z10 p0 f0
        obtain ⟨p0, f0⟩ := blk HX10.out.1
        obtain ⟨p1, f1⟩ := blk HX10.out.2.1
        obtain ⟨p2, f2⟩ := blk HX10.out.2.2.1
        go_region
        go_wp2_with fail
        refine bodyPost_ret (results_st_e rfl _ _ (w.heap.size + 2) (.slice a9 s.lines.length c9) (.int .i64 s.anc.line) (.int .i64 s.anc.col) (.int .i64 s.foc.line) (.int .i64 s.foc.col) (.int .i64 (bits .or .i64 (bits .andNot .i64 s.on t) (bits .andNot .i64 t r))) (.int .i64 (bits .or .i64 (bits .andNot .i64 s.off t) (bits .andNot .i64 t (bits .andNot .i64 t r)))) (.int .i64 0) rfl rfl (by rw [drew_heap]; simp [heap_set, putIn, HX10.out.2.2.1])) rfl ?_
        unfold StSaid
        rw [HR2.out, HTC.out]
        have hb10 : Below w.heap.size w w10 := (H1.out.trans (hb9.mono hs1)).trans (HX10.out.2.2.2.1 _ (Nat.le_refl _))
        have hv10 : DocR true w10 (fun b => w.heap.size + 3 ≤ b) (.slice a9 s.lines.length c9) s.lines := SliceR.stable (rdLin_stable true) HV9.out ⟨Nat.le_of_eq HX10.out.2.2.2.2.2.symm, fun b hb _ => HX10.out.2.2.2.2.1 b (fun e => by have hb : X8.heap.size ≤ b := hb; have := hcX8.size; omega)⟩ (fun b hb _ => by have hb : X8.heap.size ≤ b := hb; have := hcX8.size; show w.heap.size + 3 ≤ b; omega)
        exact ⟨_, rfl, (SliceR.stable (rdLin_stable _) hv10 (by (repeat' (first | (with_reducible exact Keeps.refl _ _) | (with_reducible refine Keeps.set ?_ ?_ _) | (with_reducible refine Keeps.alloc ?_ _) | (with_reducible refine Keeps.drew ?_) | (first | (simp; done)) | (simp; omega)))) (fun b h _ => (by have h' := h; (try simp at h'); omega))), by (repeat' (first | (with_reducible exact Below.refl _ _) | (with_reducible assumption) | (with_reducible refine Below.alloc ?_ ?_ _) | (with_reducible refine Below.drew ?_) | (with_reducible refine drewN_below ?_) | (with_reducible refine Below.setCell ?_ ?_ _) | go_size))⟩
      · have HR2 : Hid (toggleS s t = staysS s (togD s t)) := Lib.hid (HR.out.trans (if_neg hc))
        rw [decide_eq_false hc] at HO
        obtain ⟨X, hX⟩ : ∃ X, staysS s (togD s t) = X := ⟨_, rfl⟩
        rw [hX] at HCh2 HR2
        obtain ⟨p0, f0⟩ := blk k0
        clear HR hfo hc hX k0 k1 k2
        go_enter Tryz.func29, Tryz.ntmps29
        go_wp2_with (go_at_call 93; refine (HT.out _).mono ?_; rintro e w2 ⟨rfl, hst2⟩)
        have hb2 := below_from hw0 hst2
        obtain ⟨w3, hw3⟩ : ∃ w3, w2.alloc (.cells #[.int .i64 1, .int .i64 2, .int .i64 4, .int .i64 8] 82) = w3 := ⟨_, rfl⟩
        rw [hw3]
        have hb23 : Below w2.heap.size w2 w3 := hw3 ▸ below1 (Below.refl _ _) _
        have n3 : w3.heap[w2.heap.size]? = some (.cells #[.int .i64 1, .int .i64 2, .int .i64 4, .int .i64 8] 82) := hw3 ▸ heap_new _ _ rfl
        have hb3 := below_from hb2 hb23
        have HCt : Hid (∀ W, Below w3.heap.size w3 W → Calls Tryz.prog 94 #[.slice (some ⟨w2.heap.size, 0, none⟩) 4 4, .int .i64 t] W fun e w' => e = .returned (.bool (four t)) ∧ Below W.heap.size W w') := Lib.hid fun W hW => by
          have := containsInts_any _ [1, 2, 4, 8] t W (fun _ => True) (slice_blk (enc := encInt) (fun _ => rfl) [1, 2, 4, 8] (heap_below hW n3) trivial (by decide))
          rw [four_any] at this
          exact this.mono fun _ _ ⟨h1, h2⟩ => ⟨h1, h2 ▸ Below.refl _ _⟩
        clear hw3 n3 p0 f0
        rw [HF.out] at HCt
        refine wp_region_grew w3.heap.size (by kernel_rfl) (by kernel_rfl) ?_
        refine BigFrame.wpQuiet_want (by kernel_rfl) (fun K hK => ?_)
        refine quiet_val ?_ (fun W hW => ?_) (hK _ ?_)
        rotate_left 1
        · skip
          obtain ⟨p0, f0⟩ := blk (HB.out _ (below_from hb3 hW)).1
          obtain ⟨p1, f1⟩ := blk (HB.out _ (below_from hb3 hW)).2.1
          go_simp
          try rfl
        clear hK
        clear K
        try simp only [Act.put, List.setIfInBounds_toArray, List.set_cons_zero, List.set_cons_succ]
        refine BigFrame.wpQuiet_want (by kernel_rfl) (fun K hK => ?_)
        refine quiet_calls (f := ?_) (args := ?_) ?_ (fun W hW => ?_) (fun W hW => ?_) (hK _ ?_)
        rotate_left 3
        · go_simp
          constructor <;> rfl
        · refine (HM.out _ (below_from hb3 hW)).mono ?_
          rintro e W2 ⟨rfl, hbW⟩
          refine ⟨?_, below_from hW hbW⟩
          rfl
        clear hK
        clear K
        try simp only [Act.put, List.setIfInBounds_toArray, List.set_cons_zero, List.set_cons_succ]
        refine BigFrame.wpQuiet_want (by kernel_rfl) (fun K hK => ?_)
        refine quiet_val ?_ (fun W hW => ?_) (hK _ ?_)
        rotate_left 1
        · skip
          go_simp
          try rfl
        clear hK
        clear K
        try simp only [Act.put, List.setIfInBounds_toArray, List.set_cons_zero, List.set_cons_succ]
        refine BigFrame.wpQuiet_want (by kernel_rfl) (fun K hK => ?_)
        refine quiet_val ?_ (fun W hW => ?_) (hK _ ?_)
        rotate_left 1
        · skip
          go_simp
          try rfl
        clear hK
        clear K
        try simp only [Act.put, List.setIfInBounds_toArray, List.set_cons_zero, List.set_cons_succ]
        refine BigFrame.wpQuiet_want (by kernel_rfl) (fun K hK => ?_)
        refine quiet_val ?_ (fun W hW => ?_) (hK _ ?_)
        rotate_left 1
        · skip
          go_simp
          try rfl
        clear hK
        clear K
        try simp only [Act.put, List.setIfInBounds_toArray, List.set_cons_zero, List.set_cons_succ]
        refine BigFrame.wpQuiet_want (by kernel_rfl) (fun K hK => ?_)
        refine quiet_val ?_ (fun W hW => ?_) (hK _ ?_)
        rotate_left 1
        · skip
          obtain ⟨p0, f0⟩ := blk (HB.out _ (below_from hb3 hW)).1
          obtain ⟨p1, f1⟩ := blk (HB.out _ (below_from hb3 hW)).2.1
          go_simp
          try rfl
        clear hK
        clear K
        try simp only [Act.put, List.setIfInBounds_toArray, List.set_cons_zero, List.set_cons_succ]
        refine BigFrame.wpQuiet_want (by kernel_rfl) (fun K hK => ?_)
        refine quiet_calls (f := ?_) (args := ?_) ?_ (fun W hW => ?_) (fun W hW => ?_) (hK _ ?_)
        rotate_left 3
        · go_simp
          constructor <;> rfl
        · refine (HCt.out _ hW).mono ?_
          rintro e W2 ⟨rfl, hbW⟩
          refine ⟨?_, below_from hW hbW⟩
          rfl
        clear hK
        clear K
        try simp only [Act.put, List.setIfInBounds_toArray, List.set_cons_zero, List.set_cons_succ]
        refine BigFrame.wpQuiet_want (by kernel_rfl) (fun K hK => ?_)
        refine quiet_val ?_ (fun W hW => ?_) (hK _ ?_)
        rotate_left 1
        · skip
          go_simp
          try rfl
        clear hK
        clear K
        try simp only [Act.put, List.setIfInBounds_toArray, List.set_cons_zero, List.set_cons_succ]
        refine BigFrame.wpQuiet_want (by kernel_rfl) (fun K hK => ?_)
        refine quiet_val ?_ (fun W hW => ?_) (hK _ ?_)
        rotate_left 1
        · skip
          go_simp
          try rfl
        clear hK
        clear K
        try simp only [Act.put, List.setIfInBounds_toArray, List.set_cons_zero, List.set_cons_succ]
        refine BigFrame.wpQuiet_want (by kernel_rfl) (fun K hK => ?_)
        refine quiet_val ?_ (fun W hW => ?_) (hK _ ?_)
        rotate_left 1
        · skip
          go_simp
          try rfl
        clear hK
        clear K
        try simp only [Act.put, List.setIfInBounds_toArray, List.set_cons_zero, List.set_cons_succ]
        refine wpQuiet_nil (fun X6 hstX6 => ?_)
        have hcX6 := below_from hb3 hstX6
        obtain ⟨p0, f0⟩ := blk (HB.out _ hcX6).1
        go_wp2_with (first
          | (go_at_call 75; refine (HO.out _ hcX6).mono ?_; rintro e w7 ⟨rfl, hst7⟩; have hb7 := below_from hcX6 hst7; obtain ⟨q0, g0⟩ := blk (HB.out _ hb7).1)
          | (go_at_call 95; refine (HCh2.out _ hb7).mono ?_; intro e w8 hsaid; obtain ⟨v8, rfl, hv8, hst8⟩ := hsaid; obtain ⟨a8, c8, rfl⟩ := hv8.slice; have hb8 := below_from hb7 hst8; have HV8 := Lib.hid hv8; clear hv8; obtain ⟨q2, g2⟩ := blk (HB.out _ hb8).2.2))
        refine bodyPost_ret (results_st_e rfl _ _ (w.heap.size + 2) (.slice a8 X.1.lines.length c8) (.int .i64 X.1.anc.line) (.int .i64 X.1.anc.col) (.int .i64 X.1.foc.line) (.int .i64 X.1.foc.col) (.int .i64 X.1.on) (.int .i64 X.1.off) (.int .i64 X.2) rfl rfl (by simp [heap_set, putIn, (HB.out _ hb8).2.2])) rfl ?_
        unfold StSaid
        rw [HR2.out]
        have hfin := H1.out.trans (hb8.mono hs1)
        have hv8 := HV8.out
        have hz7 := hb7.size
        exact ⟨_, rfl, (SliceR.stable (rdLin_stable _) hv8 (by (repeat' (first | (with_reducible exact Keeps.refl _ _) | (with_reducible refine Keeps.set ?_ ?_ _) | (with_reducible refine Keeps.alloc ?_ _) | (with_reducible refine Keeps.drew ?_) | (first | fail) | (simp; omega)))) (fun b h _ => (by have h' := h; (try simp at h'); omega))), by (repeat' (first | (with_reducible exact Below.refl _ _) | (with_reducible assumption) | (with_reducible refine Below.alloc ?_ ?_ _) | (with_reducible refine Below.drew ?_) | (with_reducible refine drewN_below ?_) | (with_reducible refine Below.setCell ?_ ?_ _) | go_size))⟩
end Go.Proofs.YtpndnbjpnajaaaaGreatDoor
namespace Go.Proofs.Qw
open Go.RowKit Go.Proofs.YtpndnbjpnajaaaaGreatDoor
def exL (b c : Int) (h k : List UInt8) : Doc := [⟨0, [], 0, [⟨97, b, h⟩, ⟨98, c, k⟩]⟩]
def exA : St := ⟨exL 0 1 [] [], ⟨0, 0⟩, ⟨0, 2⟩, 0, 0⟩
def exB : St := ⟨exL 1 1 [] [], ⟨0, 0⟩, ⟨0, 2⟩, 0, 0⟩
def exC : St := ⟨exL 0 0 [] [], ⟨0, 0⟩, ⟨0, 2⟩, 0, 0⟩
def exX : List UInt8 := [120]
def exD : St := ⟨exL 0 1 exX exX, ⟨0, 0⟩, ⟨0, 2⟩, 0, 0⟩
def exE : St := ⟨exL 0 1 [] [], ⟨0, 2⟩, ⟨0, 2⟩, 0, 0⟩
def exF : St := ⟨exL 0 1 [] [], ⟨0, 2⟩, ⟨0, 2⟩, 0, 1⟩
theorem exA_tog : toggleS exA 1 = (exB, 0) := by decide +kernel
theorem exB_tog : toggleS exB 1 = (exC, 0) := by decide +kernel
theorem exA_link : changedS exA (linkL exA [120]) = (exD, 0) := by decide +kernel
theorem exA_off : changedS exA (linkL exA [32, 120]) = (noS, 1) := by decide +kernel
theorem exE_tog : toggleS exE 1 = (exF, 0) := by decide +kernel
theorem exD_href : hrefS exD = [120] := by decide +kernel
theorem exE_bits : bitsS exE = 1 := by decide +kernel
theorem exF_bits : bitsS exF = 0 := by decide +kernel
end Go.Proofs.Qw
namespace Go.Proofs.YtpndnbjpnajaaaaGreatDoor
open Go.RowKit
open Go.Proofs.Qw
theorem on1f {w : World} {B : Nat} {cs : Array Value} {t : TypeId} (h : w.heap[B]? = some (.cells cs t)) : ∀ X k, (w.alloc X).frozen? ⟨B, k, none⟩ = false := fun X _ => frozen_of_heap (heap_old _ X h)
theorem exL_small (b c : Int) {h k : List UInt8} (h1 : h.length ≤ 10) (h2 : k.length ≤ 10) : Small (exL b c h k) ∧ Fits (exL b c h k) := by
  refine ⟨⟨by simp [sizeD, exL], by simp [exL], fun l hl x hx => ?_⟩, by simp [exL], fun l hl => ?_⟩
  · simp only [exL, List.mem_singleton] at hl
    subst hl
    simp only [List.mem_cons, List.mem_nil_iff, or_false] at hx
    rcases hx with rfl | rfl
    · show h.length ≤ _; omega
    · show k.length ≤ _; omega
  · simp only [exL, List.mem_singleton] at hl
    subst hl
    simp
theorem exL_at {w : World} {S : Nat → Prop} {v : Value} {b c : Int} {h k : List UInt8} (hv : DocR true w S v (exL b c h k)) :
    ∃ p o n la lc p2 o2 n2, v = .slice (some ⟨p, o, none⟩) 1 n ∧ p < w.heap.size ∧ p2 < w.heap.size ∧ w.cell? ⟨p, o + 1, none⟩ = some (.slice la 0 lc) ∧ w.cell? ⟨p, o + 3, none⟩ = some (.slice (some ⟨p2, o2, none⟩) 2 n2) ∧ w.cell? ⟨p2, o2 + 1, none⟩ = some (.int .i64 b) ∧ w.cell? ⟨p2, o2 + 3 + 1, none⟩ = some (.int .i64 c) ∧ n ≤ maxLen ∧ n2 ≤ maxLen ∧ 1 ≤ n ∧ 2 ≤ n2 := by
  obtain ⟨p, o, n, la, lc, ca, cc, rfl, hc, hm, hA, _, hC, _⟩ := docOwn_at hv (i := 0) (l := ⟨0, [], 0, [⟨97, b, h⟩, ⟨98, c, k⟩]⟩) rfl
  rw [Nat.zero_mul, Nat.add_zero] at hA
  obtain ⟨hlt, _, a1, _, a3, _, _⟩ := hA
  obtain ⟨a, n2, he, hn2, hm2, hx⟩ := cels_shape (SliceR.read (fun _ _ h => h) hC)
  cases he
  obtain ⟨p2, o2, rfl, hz2, _, c1, _⟩ := hx 0 _ rfl
  obtain ⟨p3, o3, he3, _, _, d1, _⟩ := hx 1 _ rfl
  cases he3
  rw [Nat.zero_mul, Nat.add_zero] at c1
  rw [Nat.one_mul] at d1
  exact ⟨p, o, n, la, lc, p2, o2, _, rfl, hlt, hz2, a1, a3, c1, d1, hm, hm2, hc, hn2⟩
set_option maxRecDepth 100000 in
set_option maxHeartbeats 4000000 in
theorem awake24_any (w : World) (he : EnvT w) : Calls Tryz.prog 18 #[] w fun e w' => e = .returned (.bool true) ∧ Below w.heap.size w w' := by
  obtain ⟨W1, hW1⟩ : ∃ W1, ((w.alloc (.cells #[.int .i32 97, .int .i64 0, .string ⟨#[]⟩, .int .i32 98, .int .i64 1, .string ⟨#[]⟩] 44)).alloc (.cells #[.int .i64 0, .slice none 0 0, .int .i64 0, .slice (some ⟨w.heap.size, 0, none⟩) 2 2] 42)).alloc (.cells #[.slice (some ⟨w.heap.size + 1, 0, none⟩) 1 1, .int .i64 0, .int .i64 0, .int .i64 0, .int .i64 2, .int .i64 0, .int .i64 0] 26) = W1 := ⟨_, rfl⟩
  have hB : Below w.heap.size w W1 := hW1 ▸ below3 (Below.refl _ _) _ _ _
  have hz : w.heap.size + 3 = W1.heap.size := by rw [← hW1]; simp
  have k0 : W1.heap[w.heap.size]? = some (.cells #[.int .i32 97, .int .i64 0, .string ⟨#[]⟩, .int .i32 98, .int .i64 1, .string ⟨#[]⟩] 44) := hW1 ▸ heap_old _ _ (heap_old _ _ (heap_new _ _ rfl))
  have k1 : W1.heap[w.heap.size + 1]? = some (.cells #[.int .i64 0, .slice none 0 0, .int .i64 0, .slice (some ⟨w.heap.size, 0, none⟩) 2 2] 42) := hW1 ▸ heap_old _ _ (heap_new _ _ (by simp))
  have k2 : W1.heap[w.heap.size + 1 + 1]? = some (.cells #[.slice (some ⟨w.heap.size + 1, 0, none⟩) 1 1, .int .i64 0, .int .i64 0, .int .i64 0, .int .i64 2, .int .i64 0, .int .i64 0] 26) := hW1 ▸ heap_new _ _ (by simp)
  have hd0 : LinsR W1 (fun b => b < w.heap.size + 2) (.slice (some ⟨w.heap.size + 1, 0, none⟩) 1 1) (exL 0 1 [] []) := by
    refine ⟨_, 1, rfl, Nat.le_refl _, by decide, .inr ⟨w.heap.size + 1, 0, rfl, (by show w.heap.size + 1 < w.heap.size + 2; omega), by omega, fun h => (by cases h), fun i x hx => ?_⟩⟩
    match i, hx with
    | 0, hx =>
      cases hx
      exact ⟨[.int .i64 0, .slice none 0 0, .int .i64 0, .slice (some ⟨w.heap.size, 0, none⟩) 2 2], rfl, ⟨.slice none 0 0, _, rfl, SliceR.nil _ _ _ _ _ _, slice_blk (enc := encCel) (fun _ => rfl) [⟨97, 0, []⟩, ⟨98, 1, []⟩] k0 (by show w.heap.size < w.heap.size + 2; omega) (by decide)⟩, fun j u hu => by
        rw [cell_of_heap k1, Nat.zero_mul, Nat.zero_add]
        simpa using hu⟩
  have hs1 := hB.size
  have HE : Hid (∀ W, Below w.heap.size w W → EnvT W) := Lib.hid fun W hW => he.below hW
  have HB1 := Lib.hid hB
  have HD1 := Lib.hid hd0
  have HK1 := Lib.hid k2
  have HS1 : Hid (w.heap.size + 3 ≤ W1.heap.size) := Lib.hid (by omega)
  have HW1 := Lib.hid hW1
  clear he hd0 k0 k1 k2 hB hW1
  go_enter Tryz.func18, Tryz.ntmps18
  go_wp2_with fail
  rw [HW1.out]
  have HC2 : Hid (Calls Tryz.prog 29 #[.agg #[.slice (some ⟨w.heap.size + 1, 0, none⟩) 1 1, .int .i64 0, .int .i64 0, .int .i64 0, .int .i64 2, .int .i64 0, .int .i64 0], .int .i64 1] W1 (StSaid ((⟨exL 1 1 [] [], ⟨0, 0⟩, ⟨0, 2⟩, 0, 0⟩, 0)) W1)) := Lib.hid (by
    have := styToggle_any (.slice (some ⟨w.heap.size + 1, 0, none⟩) 1 1) exA 1 W1 _ HD1.out (HE.out _ HB1.out) (exL_small _ _ (by decide) (by decide)).1 (exL_small _ _ (by decide) (by decide)).2
    rw [exA_tog] at this
    exact this)
  refine HC2.out.mono ?_
  intro e w2 hsaid
  obtain ⟨v2, rfl, hv2, hst2⟩ := hsaid
  obtain ⟨x2, y2, hve2⟩ := hv2.slice
  rw [show (exL 1 1 [] []).length = 1 from rfl] at hve2
  subst hve2
  have HB20 : Hid (Below w.heap.size w w2) := Lib.hid (below_from HB1.out hst2)
  have HK20 := Lib.hid (heap_below hst2 HK1.out)
  have HD20 := Lib.hid (HD1.out.below (rdLin_stable _) hst2)
  have HS20 := Lib.hid (Nat.le_trans HS1.out hst2.size)
  have HR2_20 := Lib.hid hv2
  have HT2 := Lib.hid hst2
  clear hv2 hst2
  obtain ⟨q2, g2⟩ := blk HK20.out
  have r2 := on1 HK20.out
  have u2 := on1f HK20.out
  have e2 : ¬ w2.heap.size = w.heap.size + 1 + 1 := by have := HS20.out; omega
  go_wp2_with fail
  obtain ⟨m2, hm2⟩ : ∃ m2, w2.alloc (.cells #[.slice x2 1 y2, .int .i64 0, .int .i64 0, .int .i64 0, .int .i64 2, .int .i64 0, .int .i64 0] 26) = m2 := ⟨_, rfl⟩
  rw [hm2]
  have hbm2 : Below w2.heap.size w2 m2 := hm2 ▸ below1 (Below.refl _ _) _
  have HN2_2 : Hid (m2.heap[w2.heap.size]? = some (.cells #[.slice x2 1 y2, .int .i64 0, .int .i64 0, .int .i64 0, .int .i64 2, .int .i64 0, .int .i64 0] 26)) := Lib.hid (hm2 ▸ heap_new _ _ rfl)
  have HB2 := Lib.hid (below_from HB20.out hbm2)
  have HK2 := Lib.hid (heap_below hbm2 HK20.out)
  have HD2 := Lib.hid (HD20.out.below (rdLin_stable _) hbm2)
  have HS2 := Lib.hid (Nat.le_trans HS20.out hbm2.size)
  have HR2_2 := Lib.hid (HR2_20.out.below hbm2)
  clear hbm2 hm2 q2 g2 r2 u2 e2
  have HC3 : Hid (Calls Tryz.prog 29 #[.agg #[.slice x2 1 y2, .int .i64 0, .int .i64 0, .int .i64 0, .int .i64 2, .int .i64 0, .int .i64 0], .int .i64 1] m2 (StSaid ((⟨exL 0 0 [] [], ⟨0, 0⟩, ⟨0, 2⟩, 0, 0⟩, 0)) m2)) := Lib.hid (by
    have := styToggle_any _ exB 1 m2 _ HR2_2.out.read (HE.out _ HB2.out) (exL_small _ _ (by decide) (by decide)).1 (exL_small _ _ (by decide) (by decide)).2
    rw [exB_tog] at this
    exact this)
  refine HC3.out.mono ?_
  intro e w3 hsaid
  obtain ⟨v3, rfl, hv3, hst3⟩ := hsaid
  obtain ⟨x3, y3, hve3⟩ := hv3.slice
  rw [show (exL 0 0 [] []).length = 1 from rfl] at hve3
  subst hve3
  have HB30 : Hid (Below w.heap.size w w3) := Lib.hid (below_from HB2.out hst3)
  have HK30 := Lib.hid (heap_below hst3 HK2.out)
  have HD30 := Lib.hid (HD2.out.below (rdLin_stable _) hst3)
  have HS30 := Lib.hid (Nat.le_trans HS2.out hst3.size)
  have HR3_30 := Lib.hid hv3
  have HR2_30 := Lib.hid (HR2_2.out.below hst3)
  have HN2_30 := Lib.hid (heap_below hst3 HN2_2.out)
  have HT3 := Lib.hid hst3
  clear hv3 hst3
  obtain ⟨q3, g3⟩ := blk HK30.out
  have r3 := on1 HK30.out
  have u3 := on1f HK30.out
  have e3 : ¬ w3.heap.size = w.heap.size + 1 + 1 := by have := HS30.out; omega
  go_wp2_with fail
  obtain ⟨m3, hm3⟩ : ∃ m3, w3.alloc (.cells #[.slice x3 1 y3, .int .i64 0, .int .i64 0, .int .i64 0, .int .i64 2, .int .i64 0, .int .i64 0] 26) = m3 := ⟨_, rfl⟩
  rw [hm3]
  have hbm3 : Below w3.heap.size w3 m3 := hm3 ▸ below1 (Below.refl _ _) _
  have HN3_3 : Hid (m3.heap[w3.heap.size]? = some (.cells #[.slice x3 1 y3, .int .i64 0, .int .i64 0, .int .i64 0, .int .i64 2, .int .i64 0, .int .i64 0] 26)) := Lib.hid (hm3 ▸ heap_new _ _ rfl)
  have HB3 := Lib.hid (below_from HB30.out hbm3)
  have HK3 := Lib.hid (heap_below hbm3 HK30.out)
  have HD3 := Lib.hid (HD30.out.below (rdLin_stable _) hbm3)
  have HS3 := Lib.hid (Nat.le_trans HS30.out hbm3.size)
  have HR3_3 := Lib.hid (HR3_30.out.below hbm3)
  have HR2_3 := Lib.hid (HR2_30.out.below hbm3)
  have HN2_3 := Lib.hid (heap_below hbm3 HN2_30.out)
  clear hbm3 hm3 q3 g3 r3 u3 e3
  have HC4 : Hid (Calls Tryz.prog 30 #[.agg #[.slice (some ⟨w.heap.size + 1, 0, none⟩) 1 1, .int .i64 0, .int .i64 0, .int .i64 0, .int .i64 2, .int .i64 0, .int .i64 0], .string ⟨#[120]⟩] m3 (StSaid ((⟨exL 0 1 exX exX, ⟨0, 0⟩, ⟨0, 2⟩, 0, 0⟩, 0)) m3)) := Lib.hid (by
    have := styLink_any (.slice (some ⟨w.heap.size + 1, 0, none⟩) 1 1) exA [120] m3 _ HD3.out (HE.out _ HB3.out) (exL_small _ _ (by decide) (by decide)).1 (exL_small _ _ (by decide) (by decide)).2 (by decide)
    rw [exA_link] at this
    exact this)
  refine HC4.out.mono ?_
  intro e w4 hsaid
  obtain ⟨v4, rfl, hv4, hst4⟩ := hsaid
  obtain ⟨x4, y4, hve4⟩ := hv4.slice
  rw [show (exL 0 1 exX exX).length = 1 from rfl] at hve4
  subst hve4
  have HB40 : Hid (Below w.heap.size w w4) := Lib.hid (below_from HB3.out hst4)
  have HK40 := Lib.hid (heap_below hst4 HK3.out)
  have HD40 := Lib.hid (HD3.out.below (rdLin_stable _) hst4)
  have HS40 := Lib.hid (Nat.le_trans HS3.out hst4.size)
  have HR4_40 := Lib.hid hv4
  have HR2_40 := Lib.hid (HR2_3.out.below hst4)
  have HN2_40 := Lib.hid (heap_below hst4 HN2_3.out)
  have HR3_40 := Lib.hid (HR3_3.out.below hst4)
  have HN3_40 := Lib.hid (heap_below hst4 HN3_3.out)
  have HT4 := Lib.hid hst4
  clear hv4 hst4
  obtain ⟨q4, g4⟩ := blk HK40.out
  have r4 := on1 HK40.out
  have u4 := on1f HK40.out
  have e4 : ¬ w4.heap.size = w.heap.size + 1 + 1 := by have := HS40.out; omega
  go_wp2_with fail
  obtain ⟨m4, hm4⟩ : ∃ m4, w4.alloc (.cells #[.slice x4 1 y4, .int .i64 0, .int .i64 0, .int .i64 0, .int .i64 2, .int .i64 0, .int .i64 0] 26) = m4 := ⟨_, rfl⟩
  rw [hm4]
  have hbm4 : Below w4.heap.size w4 m4 := hm4 ▸ below1 (Below.refl _ _) _
  have HN4_4 : Hid (m4.heap[w4.heap.size]? = some (.cells #[.slice x4 1 y4, .int .i64 0, .int .i64 0, .int .i64 0, .int .i64 2, .int .i64 0, .int .i64 0] 26)) := Lib.hid (hm4 ▸ heap_new _ _ rfl)
  have HB4 := Lib.hid (below_from HB40.out hbm4)
  have HK4 := Lib.hid (heap_below hbm4 HK40.out)
  have HD4 := Lib.hid (HD40.out.below (rdLin_stable _) hbm4)
  have HS4 := Lib.hid (Nat.le_trans HS40.out hbm4.size)
  have HR4_4 := Lib.hid (HR4_40.out.below hbm4)
  have HR2_4 := Lib.hid (HR2_40.out.below hbm4)
  have HN2_4 := Lib.hid (heap_below hbm4 HN2_40.out)
  have HR3_4 := Lib.hid (HR3_40.out.below hbm4)
  have HN3_4 := Lib.hid (heap_below hbm4 HN3_40.out)
  clear hbm4 hm4 q4 g4 r4 u4 e4
  have HC5 : Hid (Calls Tryz.prog 30 #[.agg #[.slice (some ⟨w.heap.size + 1, 0, none⟩) 1 1, .int .i64 0, .int .i64 0, .int .i64 0, .int .i64 2, .int .i64 0, .int .i64 0], .string ⟨#[32, 120]⟩] m4 (StSaid ((⟨[], ⟨0, 0⟩, ⟨0, 0⟩, 0, 0⟩, 1)) m4)) := Lib.hid (by
    have := styLink_any (.slice (some ⟨w.heap.size + 1, 0, none⟩) 1 1) exA [32, 120] m4 _ HD4.out (HE.out _ HB4.out) (exL_small _ _ (by decide) (by decide)).1 (exL_small _ _ (by decide) (by decide)).2 (by decide)
    rw [exA_off] at this
    exact this)
  refine HC5.out.mono ?_
  intro e w5 hsaid
  obtain ⟨v5, rfl, hv5, hst5⟩ := hsaid
  obtain ⟨x5, y5, hve5⟩ := hv5.slice
  rw [show (([] : Doc)).length = 0 from rfl] at hve5
  subst hve5
  have HB50 : Hid (Below w.heap.size w w5) := Lib.hid (below_from HB4.out hst5)
  have HK50 := Lib.hid (heap_below hst5 HK4.out)
  have HD50 := Lib.hid (HD4.out.below (rdLin_stable _) hst5)
  have HS50 := Lib.hid (Nat.le_trans HS4.out hst5.size)
  have HR5_50 := Lib.hid hv5
  have HR2_50 := Lib.hid (HR2_4.out.below hst5)
  have HN2_50 := Lib.hid (heap_below hst5 HN2_4.out)
  have HR3_50 := Lib.hid (HR3_4.out.below hst5)
  have HN3_50 := Lib.hid (heap_below hst5 HN3_4.out)
  have HR4_50 := Lib.hid (HR4_4.out.below hst5)
  have HN4_50 := Lib.hid (heap_below hst5 HN4_4.out)
  have HT5 := Lib.hid hst5
  clear hv5 hst5
  obtain ⟨q5, g5⟩ := blk HK50.out
  have r5 := on1 HK50.out
  have u5 := on1f HK50.out
  have e5 : ¬ w5.heap.size = w.heap.size + 1 + 1 := by have := HS50.out; omega
  go_wp2_with fail
  obtain ⟨m5, hm5⟩ : ∃ m5, w5.alloc (.cells #[.slice x5 0 y5, .int .i64 0, .int .i64 0, .int .i64 0, .int .i64 0, .int .i64 0, .int .i64 0] 26) = m5 := ⟨_, rfl⟩
  rw [hm5]
  have hbm5 : Below w5.heap.size w5 m5 := hm5 ▸ below1 (Below.refl _ _) _
  have HN5_5 : Hid (m5.heap[w5.heap.size]? = some (.cells #[.slice x5 0 y5, .int .i64 0, .int .i64 0, .int .i64 0, .int .i64 0, .int .i64 0, .int .i64 0] 26)) := Lib.hid (hm5 ▸ heap_new _ _ rfl)
  have HB5 := Lib.hid (below_from HB50.out hbm5)
  have HK5 := Lib.hid (heap_below hbm5 HK50.out)
  have HD5 := Lib.hid (HD50.out.below (rdLin_stable _) hbm5)
  have HS5 := Lib.hid (Nat.le_trans HS50.out hbm5.size)
  have HR5_5 := Lib.hid (HR5_50.out.below hbm5)
  have HR2_5 := Lib.hid (HR2_50.out.below hbm5)
  have HN2_5 := Lib.hid (heap_below hbm5 HN2_50.out)
  have HR3_5 := Lib.hid (HR3_50.out.below hbm5)
  have HN3_5 := Lib.hid (heap_below hbm5 HN3_50.out)
  have HR4_5 := Lib.hid (HR4_50.out.below hbm5)
  have HN4_5 := Lib.hid (heap_below hbm5 HN4_50.out)
  clear hbm5 hm5 q5 g5 r5 u5 e5
  obtain ⟨m6, hm6⟩ : ∃ m6, (m5.setCell ⟨w.heap.size + 1 + 1, 1, none⟩ (.int .i64 0)).setCell ⟨w.heap.size + 1 + 1, 2, none⟩ (.int .i64 2) = m6 := ⟨_, rfl⟩
  rw [hm6]
  have o6 : ∀ k, k ≠ w.heap.size + 1 + 1 → m6.heap[k]? = m5.heap[k]? := fun k hk => by rw [← hm6, heap_set, if_neg (Ne.symm hk), heap_set, if_neg (Ne.symm hk)]
  have z6 : m6.heap.size = m5.heap.size := by rw [← hm6]; simp
  have HB6 : Hid (Below w.heap.size w m6) := Lib.hid (hm6 ▸ (HB5.out.setCell (by show w.heap.size ≤ w.heap.size + 1 + 1; omega) _).setCell (by show w.heap.size ≤ w.heap.size + 1 + 1; omega) _)
  have HK6 : Hid (m6.heap[w.heap.size + 1 + 1]? = some (.cells #[.slice (some ⟨w.heap.size + 1, 0, none⟩) 1 1, .int .i64 0, .int .i64 2, .int .i64 0, .int .i64 2, .int .i64 0, .int .i64 0] 26)) := Lib.hid (by rw [← hm6, heap_set, if_pos rfl, heap_set, if_pos rfl, HK5.out]; rfl)
  have HD6 := Lib.hid (SliceR.stable (rdLin_stable false) HD5.out ⟨by omega, fun b hb _ => o6 b (by have hb : b < w.heap.size + 2 := hb; omega)⟩ (fun b h _ => h))
  have HS6 : Hid (w.heap.size + 3 ≤ m6.heap.size) := Lib.hid (by have := HS5.out; omega)
  have HR2_6 : Hid (DocR true m6 (fun b => W1.heap.size ≤ b) (.slice x2 1 y2) (exL 1 1 [] [])) := Lib.hid (SliceR.stable (rdLin_stable true) HR2_5.out ⟨by omega, fun b hb _ => o6 b (by have hb : W1.heap.size ≤ b := hb; have := HS1.out; omega)⟩ (fun b h _ => h))
  have HN2_6 := Lib.hid ((o6 w2.heap.size (by have := HS20.out; omega)).trans HN2_5.out)
  have HR3_6 : Hid (DocR true m6 (fun b => m2.heap.size ≤ b) (.slice x3 1 y3) (exL 0 0 [] [])) := Lib.hid (SliceR.stable (rdLin_stable true) HR3_5.out ⟨by omega, fun b hb _ => o6 b (by have hb : m2.heap.size ≤ b := hb; have := HS2.out; omega)⟩ (fun b h _ => h))
  have HN3_6 := Lib.hid ((o6 w3.heap.size (by have := HS30.out; omega)).trans HN3_5.out)
  have HR4_6 : Hid (DocR true m6 (fun b => m3.heap.size ≤ b) (.slice x4 1 y4) (exL 0 1 exX exX)) := Lib.hid (SliceR.stable (rdLin_stable true) HR4_5.out ⟨by omega, fun b hb _ => o6 b (by have hb : m3.heap.size ≤ b := hb; have := HS3.out; omega)⟩ (fun b h _ => h))
  have HN4_6 := Lib.hid ((o6 w4.heap.size (by have := HS40.out; omega)).trans HN4_5.out)
  clear hm6 o6 z6
  have HC7 : Hid (Calls Tryz.prog 29 #[.agg #[.slice (some ⟨w.heap.size + 1, 0, none⟩) 1 1, .int .i64 0, .int .i64 2, .int .i64 0, .int .i64 2, .int .i64 0, .int .i64 0], .int .i64 1] m6 (StSaid ((⟨exL 0 1 [] [], ⟨0, 2⟩, ⟨0, 2⟩, 0, 1⟩, 0)) m6)) := Lib.hid (by
    have := styToggle_any (.slice (some ⟨w.heap.size + 1, 0, none⟩) 1 1) exE 1 m6 _ HD6.out (HE.out _ HB6.out) (exL_small _ _ (by decide) (by decide)).1 (exL_small _ _ (by decide) (by decide)).2
    rw [exE_tog] at this
    exact this)
  refine HC7.out.mono ?_
  intro e w7 hsaid
  obtain ⟨v7, rfl, hv7, hst7⟩ := hsaid
  obtain ⟨x7, y7, hve7⟩ := hv7.slice
  rw [show (exL 0 1 [] []).length = 1 from rfl] at hve7
  subst hve7
  have HB70 : Hid (Below w.heap.size w w7) := Lib.hid (below_from HB6.out hst7)
  have HK70 := Lib.hid (heap_below hst7 HK6.out)
  have HD70 := Lib.hid (HD6.out.below (rdLin_stable _) hst7)
  have HS70 := Lib.hid (Nat.le_trans HS6.out hst7.size)
  have HR7_70 := Lib.hid hv7
  have HR2_70 := Lib.hid (HR2_6.out.below hst7)
  have HN2_70 := Lib.hid (heap_below hst7 HN2_6.out)
  have HR3_70 := Lib.hid (HR3_6.out.below hst7)
  have HN3_70 := Lib.hid (heap_below hst7 HN3_6.out)
  have HR4_70 := Lib.hid (HR4_6.out.below hst7)
  have HN4_70 := Lib.hid (heap_below hst7 HN4_6.out)
  have HT7 := Lib.hid hst7
  clear hv7 hst7
  obtain ⟨q7, g7⟩ := blk HK70.out
  have r7 := on1 HK70.out
  have u7 := on1f HK70.out
  have e7 : ¬ w7.heap.size = w.heap.size + 1 + 1 := by have := HS70.out; omega
  go_upto_region 8 with fail
  obtain ⟨m7, hm7⟩ : ∃ m7, w7.alloc (.cells #[.slice x7 1 y7, .int .i64 0, .int .i64 2, .int .i64 0, .int .i64 2, .int .i64 0, .int .i64 1] 26) = m7 := ⟨_, rfl⟩
  rw [hm7]
  have hbm7 : Below w7.heap.size w7 m7 := hm7 ▸ below1 (Below.refl _ _) _
  have HN7_7 : Hid (m7.heap[w7.heap.size]? = some (.cells #[.slice x7 1 y7, .int .i64 0, .int .i64 2, .int .i64 0, .int .i64 2, .int .i64 0, .int .i64 1] 26)) := Lib.hid (hm7 ▸ heap_new _ _ rfl)
  have HB7 := Lib.hid (below_from HB70.out hbm7)
  have HK7 := Lib.hid (heap_below hbm7 HK70.out)
  have HD7 := Lib.hid (HD70.out.below (rdLin_stable _) hbm7)
  have HS7 := Lib.hid (Nat.le_trans HS70.out hbm7.size)
  have HR7_7 := Lib.hid (HR7_70.out.below hbm7)
  have HR2_7 := Lib.hid (HR2_70.out.below hbm7)
  have HN2_7 := Lib.hid (heap_below hbm7 HN2_70.out)
  have HR3_7 := Lib.hid (HR3_70.out.below hbm7)
  have HN3_7 := Lib.hid (heap_below hbm7 HN3_70.out)
  have HR4_7 := Lib.hid (HR4_70.out.below hbm7)
  have HN4_7 := Lib.hid (heap_below hbm7 HN4_70.out)
  clear hbm7 hm7 q7 g7 r7 u7 e7
  have H7 := Below.refl m7.heap.size m7
  have HHr : Hid (Calls Tryz.prog 25 #[.agg #[.slice x4 1 y4, .int .i64 0, .int .i64 0, .int .i64 0, .int .i64 2, .int .i64 0, .int .i64 0]] m7 fun e w' => e = .returned (.string ⟨#[120]⟩) ∧ Below m7.heap.size m7 w') := Lib.hid (by
    have := styHref_any _ exD m7 _ HR4_7.out.read (HE.out _ HB7.out) (exL_small _ _ (by decide) (by decide)).1 (exL_small _ _ (by decide) (by decide)).2
    rw [exD_href] at this
    exact this)
  have HBe : Hid (∀ W, Below m7.heap.size m7 W → Calls Tryz.prog 19 #[.agg #[.slice (some ⟨w.heap.size + 1, 0, none⟩) 1 1, .int .i64 0, .int .i64 2, .int .i64 0, .int .i64 2, .int .i64 0, .int .i64 0]] W fun e w' => e = .returned (.int .i64 1) ∧ Below W.heap.size W w') := Lib.hid fun W hW => by
    have := styBits_any (.slice (some ⟨w.heap.size + 1, 0, none⟩) 1 1) exE W _ (HD7.out.below (rdLin_stable _) hW) (HE.out _ (below_from HB7.out hW)) (exL_small _ _ (by decide) (by decide)).1 (exL_small _ _ (by decide) (by decide)).2
    rw [exE_bits] at this
    exact this
  have HBf : Hid (∀ W, Below m7.heap.size m7 W → Calls Tryz.prog 19 #[.agg #[.slice x7 1 y7, .int .i64 0, .int .i64 2, .int .i64 0, .int .i64 2, .int .i64 0, .int .i64 1]] W fun e w' => e = .returned (.int .i64 0) ∧ Below W.heap.size W w') := Lib.hid fun W hW => by
    have := styBits_any _ exF W _ ((HR7_7.out.read).below (rdLin_stable _) hW) (HE.out _ (below_from HB7.out hW)) (exL_small _ _ (by decide) (by decide)).1 (exL_small _ _ (by decide) (by decide)).2
    rw [exF_bits] at this
    exact this
  have HX2 := Lib.hid (exL_at HR2_7.out)
  have HX3 := Lib.hid (exL_at HR3_7.out)
  obtain ⟨q2, g2⟩ := blk HN2_7.out
  obtain ⟨q3, g3⟩ := blk HN3_7.out
  obtain ⟨q4, g4⟩ := blk HN4_7.out
  obtain ⟨q7, g7⟩ := blk HN7_7.out
  obtain ⟨p2, o2, n2, la2, lc2, p3, o3, n3, he2, _, _, _, a2, b2, _, hn2, hn3, hn4, hn5⟩ := HX2.out
  cases he2
  obtain ⟨p4, o4, n6, la4, lc4, p5, o5, n7, he4, _, _, _, a4, _, b5, hn6, hn7, hn8, hn9⟩ := HX3.out
  cases he4
  unfold maxLen at hn2 hn3 hn6 hn7
  clear HX2 HX3
  go_wp2_with fail
  with_reducible refine HHr.out.mono ?_
  rintro e w8 ⟨rfl, hb8⟩
  obtain ⟨s1, t1⟩ := blk (heap_below hb8 HK7.out)
  obtain ⟨s2, t2⟩ := blk (heap_below hb8 HN7_7.out)
  go_wp2_with fail
  with_reducible refine (HBe.out _ hb8).mono ?_
  rintro e w9 ⟨rfl, hst9⟩
  have hb9 := below_from hb8 hst9
  obtain ⟨s3, t3⟩ := blk (heap_below hb9 HN7_7.out)
  go_wp2_with fail
  with_reducible refine (HBf.out _ hb9).mono ?_
  rintro e w10 ⟨rfl, hst10⟩
  have hb10 := below_from hb9 hst10
  go_wp2_with fail
  go_ret
  exact ⟨rfl, below_from HB7.out hb10⟩
end Go.Proofs.YtpndnbjpnajaaaaGreatDoor
namespace Go.Proofs.YtpndnbjpnajaaaaGreatDoor
open Go.RowKit
open Go.Proofs.Qw
theorem long24_any (v : Value) (s : St) (w : World) (S : Nat → Prop) (h : LinsR w S v s.lines) (hs : Sane s.lines) :
    Calls Tryz.prog 17 #[stV v s] w (LongSaid s.lines w) := by
  obtain ⟨W1, hW1, hB, hz, k0⟩ := one_st w v s
  have HC := Lib.hid (refLong_any v s.lines W1 S (h.below (rdLin_stable _) hB) hs)
  have H1 := Lib.hid hB
  have hs1 := hB.size
  obtain ⟨p0, f0⟩ := blk k0
  obtain ⟨va, vc, rfl⟩ := h.slice
  clear h hs k0 hB
  go_enter Tryz.func17, Tryz.ntmps17
  go_wp2_with (go_at_call 74; refine HC.out.mono ?_; rintro e w1 ⟨r, rfl, hr, hb⟩)
  go_ret
  exact ⟨r, rfl, hr, H1.out.trans (hb.mono hs1)⟩
end Go.Proofs.YtpndnbjpnajaaaaGreatDoor
namespace Go.Proofs.YtpndnbjpnajaaaaGreatDoor
open Go.RowKit
open Go.Proofs.Qw
attribute [local go_sem] Oper.semAt_some
theorem below1' {m W : World} (h : Below m.heap.size m W) (X : Obj) : Below m.heap.size m (W.alloc X) := h.alloc h.size X
theorem run_shl (n : Int) (w : World) (h : n = 0 ∨ n = 1 ∨ n = 2 ∨ n = 3) : ∃ b, four b = true ∧ ∀ w, (Op.shift .shl .i64 1 .i64 n).run Tryz.prog w = .ok (.int .i64 b) w := by
  rcases h with rfl | rfl | rfl | rfl
  · exact ⟨1, by decide, fun _ => by kernel_rfl⟩
  · exact ⟨2, by decide, fun _ => by kernel_rfl⟩
  · exact ⟨4, by decide, fun _ => by kernel_rfl⟩
  · exact ⟨8, by decide, fun _ => by kernel_rfl⟩
set_option maxRecDepth 100000 in
set_option maxHeartbeats 8000000 in
theorem lawStOut_any (v : Value) (s : St) (t : Int) (hr : List UInt8) (w : World) (S : Nat → Prop) (h : LinsR w S v s.lines) (sn : Sane s.lines) (he : EnvT w) :
    Calls Tryz.prog 4 #[stV v s, .int .i64 t, .string ⟨hr.toArray⟩] w fun e w' => e = .returned (.bool true) ∧ Below w.heap.size w w' := by
  obtain ⟨W1, hW1, hB, hz, k0⟩ := one_st w v s
  have HB : Hid (∀ W, Below W1.heap.size W1 W → W.heap[w.heap.size]? = some (.cells #[v, .int .i64 s.anc.line, .int .i64 s.anc.col, .int .i64 s.foc.line, .int .i64 s.foc.col, .int .i64 s.on, .int .i64 s.off] 26)) := Lib.hid fun W hW => heap_below hW k0
  have hs1 := hB.size
  have H1 := Lib.hid hB
  have hw0 : Below W1.heap.size W1 W1 := Below.refl _ _
  have HV : Hid (∀ W, Below W1.heap.size W1 W → LinsR W S v s.lines) := Lib.hid fun W hW => h.below (rdLin_stable _) (hB.trans (hW.mono hs1))
  have HE : Hid (∀ W, Below W1.heap.size W1 W → EnvT W) := Lib.hid fun W hW => (he.below hB).below hW
  have HLo := Lib.hid (long24_any v s W1 S (HV.out _ hw0) sn)
  have HA : Hid (∀ W, Below W1.heap.size W1 W → Calls Tryz.prog 18 #[] W fun e w' => e = .returned (.bool true) ∧ Below W.heap.size W w') := Lib.hid fun W hW => awake24_any W (HE.out W hW)
  have HM : Hid (Small s.lines → ∀ W, Below W1.heap.size W1 W → Calls Tryz.prog 27 #[stV v s] W fun e w' => e = .returned (.bool (mayS s)) ∧ Below W.heap.size W w') := Lib.hid fun hs W hW => stMay_any v s W S (HV.out W hW) (HE.out W hW) hs
  obtain ⟨p0, f0⟩ := blk k0
  obtain ⟨va, vc, hve⟩ := h.slice
  subst hve
  clear h sn he k0 hB
  by_cases hlen : 1000 < hr.length
  · have hl1 : (1000 : Int) < (hr.length : Int) := by omega
    clear hlen
    go_enter Tryz.func4, Tryz.ntmps4
    go_wp2_with fail
    refine HLo.out.mono ?_
    rintro e w1 ⟨r, rfl, _, hb1⟩
    cases r
    all_goals
      go_wp2_with fail
      refine (HA.out _ hb1).mono ?_
      rintro e wz ⟨rfl, hstz⟩
      go_wp2_with fail
      go_ret
      exact ⟨rfl, H1.out.trans ((below_from hb1 hstz).mono hs1)⟩
  have hl1 : (hr.length : Int) ≤ 1000 := by omega
  have hh : hr.length ≤ 1000000 := by omega
  have HH := Lib.hid hh
  have hg := guardPos
  have hq := fun (w : World) => run_eql_pos s.anc s.foc w
  obtain ⟨b, hb4, hsh⟩ := run_shl (bits .and .i64 t 3) w (mask3 t)
  have HF4 := Lib.hid hb4
  clear hlen hh hb4
  go_enter Tryz.func4, Tryz.ntmps4
  go_wp2_with fail
  refine HLo.out.mono ?_
  rintro e w1 ⟨r, rfl, hr1, hb1⟩
  have HRS := Lib.hid hr1
  clear hr1
  cases r
  rotate_left 1
  · go_wp2_with fail
    refine (HA.out _ hb1).mono ?_
    rintro e wz ⟨rfl, hstz⟩
    go_wp2_with fail
    go_ret
    exact ⟨rfl, H1.out.trans ((below_from hb1 hstz).mono hs1)⟩
  have HSF : Hid (Small s.lines ∧ Fits s.lines) := Lib.hid ⟨(HRS.out rfl).small, (HRS.out rfl).fits⟩
  clear p0 f0
  obtain ⟨p0, f0⟩ := blk (HB.out _ hb1)
  go_wp2_with fail
  refine (HM.out HSF.out.1 _ hb1).mono ?_
  rintro e w2 ⟨rfl, hst2⟩
  have hb2 := below_from hb1 hst2
  cases hm : mayS s
  · go_wp2_with fail
    refine (HA.out _ hb2).mono ?_
    rintro e wz ⟨rfl, hstz⟩
    go_wp2_with fail
    go_ret
    exact ⟨rfl, H1.out.trans ((below_from hb2 hstz).mono hs1)⟩
  have HMy := Lib.hid hm
  clear hm p0 f0 hst2
  obtain ⟨p0, f0⟩ := blk (HB.out _ hb2)
  by_cases hc : s.anc = s.foc
  · rw [decide_eq_true hc] at hq
    clear hc
    go_wp2_with fail
    refine (HA.out _ hb2).mono ?_
    rintro e wz ⟨rfl, hstz⟩
    go_wp2_with fail
    go_ret
    exact ⟨rfl, H1.out.trans ((below_from hb2 hstz).mono hs1)⟩
  have HO := Lib.hid hc
  rw [decide_eq_false hc] at hq
  clear hc
  have HT : Hid (∀ W, Below W1.heap.size W1 W → Calls Tryz.prog 29 #[stV (.slice va s.lines.length vc) s, .int .i64 b] W (StSaid (toggleS s b) W)) := Lib.hid fun W hW => styToggle_any _ s b W S (HV.out W hW) (HE.out W hW) HSF.out.1 HSF.out.2
  have HL : Hid (∀ W, Below W1.heap.size W1 W → Calls Tryz.prog 30 #[stV (.slice va s.lines.length vc) s, .string ⟨hr.toArray⟩] W (StSaid (changedS s (linkL s hr)) W)) := Lib.hid fun W hW => styLink_any _ s hr W S (HV.out W hW) (HE.out W hW) HSF.out.1 HSF.out.2 HH.out
  have HP : Hid (∀ W, Below W1.heap.size W1 W → Calls Tryz.prog 31 #[stV (.slice va s.lines.length vc) s] W (StSaid (changedS s (plainL s)) W)) := Lib.hid fun W hW => styPlain_any _ s W S (HV.out W hW) (HE.out W hW) HSF.out.1 HSF.out.2
  obtain ⟨X5, hX5⟩ : ∃ X, toggleS s b = X := ⟨_, rfl⟩
  have HX5 : Hid (X5.2 = 0 → OutAt s X5.1.lines (fun y z => bits .andNot .i64 y.bits b = bits .andNot .i64 z.bits b ∧ y.href = z.href)) := Lib.hid fun h0 => tog_out HMy.out HF4.out HO.out (a := X5.1) (hX5.trans (Prod.ext rfl h0))
  rw [hX5] at HT
  clear hX5
  obtain ⟨z5, hz5⟩ : ∃ z, (X5.2 == 0) = z := ⟨_, rfl⟩
  have HZ5 := Lib.hid hz5
  clear hz5
  obtain ⟨X6, hX6⟩ : ∃ X, changedS s (linkL s hr) = X := ⟨_, rfl⟩
  have HX6 : Hid (X6.2 = 0 → OutAt s X6.1.lines (fun y z => y.bits = z.bits)) := Lib.hid fun h0 => link_out HMy.out (a := X6.1) (hX6.trans (Prod.ext rfl h0))
  rw [hX6] at HL
  clear hX6
  obtain ⟨z6, hz6⟩ : ∃ z, (X6.2 == 0) = z := ⟨_, rfl⟩
  have HZ6 := Lib.hid hz6
  clear hz6
  obtain ⟨X7, hX7⟩ : ∃ X, changedS s (plainL s) = X := ⟨_, rfl⟩
  have HX7 : Hid (X7.2 = 0 → OutAt s X7.1.lines (fun y z => y.href = z.href)) := Lib.hid fun h0 => plain_out HMy.out (a := X7.1) (hX7.trans (Prod.ext rfl h0))
  rw [hX7] at HP
  clear hX7
  obtain ⟨z7, hz7⟩ : ∃ z, (X7.2 == 0) = z := ⟨_, rfl⟩
  have HZ7 := Lib.hid hz7
  clear hz7
  have HSp : Hid (∀ W, Below W1.heap.size W1 W → Calls Tryz.prog 28 #[stV (.slice va s.lines.length vc) s] W fun e w' => e = .returned (.tuple #[.agg #[.int .i64 (spanS s).1.line, .int .i64 (spanS s).1.col], .agg #[.int .i64 (spanS s).2.line, .int .i64 (spanS s).2.col]]) ∧ Below W.heap.size W w') := Lib.hid fun W hW => stSpan_any _ s W
  obtain ⟨A, B, hAB⟩ : ∃ A B, spanS s = (A, B) := ⟨_, _, rfl⟩
  have HAB := Lib.hid hAB
  rw [hAB] at HSp
  simp only at HSp
  clear hAB
  go_wp2_with fail
  refine (HSp.out _ hb2).mono ?_
  rintro e w3 ⟨rfl, hst3⟩
  have hb3 := below_from hb2 hst3
  clear p0 f0
  obtain ⟨q0, g0⟩ := blk (HB.out _ hb3)
  have r0 := on2 (HB.out _ hb3)
  have hz3 := hb3.size
  have e3 : ¬ w3.heap.size = w.heap.size := by omega
  have e3' : ¬ w3.heap.size + 1 = w.heap.size := by omega
  go_wp2_with fail
  obtain ⟨m3, hm3⟩ : ∃ m3, (w3.alloc (.cells #[.int .i64 A.line, .int .i64 A.col] 24)).alloc (.cells #[.int .i64 B.line, .int .i64 B.col] 24) = m3 := ⟨_, rfl⟩
  rw [hm3]
  have hbm3 : Below w3.heap.size w3 m3 := hm3 ▸ below2 (Below.refl _ _) _ _
  have zm3 : w3.heap.size + 2 ≤ m3.heap.size := by rw [← hm3]; simp
  have nA := (hm3 ▸ heap_old _ _ (heap_new _ _ rfl) : m3.heap[w3.heap.size]? = some (.cells #[.int .i64 A.line, .int .i64 A.col] 24))
  have nB := (hm3 ▸ heap_new _ _ (by simp) : m3.heap[w3.heap.size + 1]? = some (.cells #[.int .i64 B.line, .int .i64 B.col] 24))
  have hc3 := below_from hb3 hbm3
  clear hm3 q0 g0 r0 e3 e3'
  with_reducible refine (HT.out _ hc3).mono ?_
  intro e w5 hsaid
  obtain ⟨v5, rfl, hv5, hst5⟩ := hsaid
  obtain ⟨x5, y5, hve5⟩ := hv5.slice
  subst hve5
  have hb5 := below_from hc3 hst5
  have HV5 := Lib.hid hv5
  clear hv5
  obtain ⟨q0, g0⟩ := blk (HB.out _ hb5)
  have r0 := on1 (HB.out _ hb5)
  have u5 := hst5.size
  have hz5 := hb5.size
  have e5 : ¬ w5.heap.size = w.heap.size := by omega
  go_wp2_with fail
  obtain ⟨m5, hm5⟩ : ∃ m5, w5.alloc (.cells #[.slice x5 X5.1.lines.length y5, .int .i64 X5.1.anc.line, .int .i64 X5.1.anc.col, .int .i64 X5.1.foc.line, .int .i64 X5.1.foc.col, .int .i64 X5.1.on, .int .i64 X5.1.off] 26) = m5 := ⟨_, rfl⟩
  rw [hm5]
  have hbm5 : Below w5.heap.size w5 m5 := hm5 ▸ below1 (Below.refl _ _) _
  have zm5 : w5.heap.size + 1 ≤ m5.heap.size := by rw [← hm5]; simp
  have n5 : m5.heap[w5.heap.size]? = some (.cells #[.slice x5 X5.1.lines.length y5, .int .i64 X5.1.anc.line, .int .i64 X5.1.anc.col, .int .i64 X5.1.foc.line, .int .i64 X5.1.foc.col, .int .i64 X5.1.on, .int .i64 X5.1.off] 26) := hm5 ▸ heap_new _ _ rfl
  have hc5 := below_from hb5 hbm5
  have HD5 := Lib.hid (HV5.out.below hbm5)
  have hh5 := below_from hst5 hbm5
  clear hm5 q0 g0 r0 e5
  have nA := heap_below hh5 nA
  have nB := heap_below hh5 nB
  with_reducible refine (HL.out _ hc5).mono ?_
  intro e w6 hsaid
  obtain ⟨v6, rfl, hv6, hst6⟩ := hsaid
  obtain ⟨x6, y6, hve6⟩ := hv6.slice
  subst hve6
  have hb6 := below_from hc5 hst6
  have HV6 := Lib.hid hv6
  clear hv6
  obtain ⟨q0, g0⟩ := blk (HB.out _ hb6)
  have r0 := on1 (HB.out _ hb6)
  have u6 := hst6.size
  have hz6 := hb6.size
  have e6 : ¬ w6.heap.size = w.heap.size := by omega
  go_wp2_with fail
  obtain ⟨m6, hm6⟩ : ∃ m6, w6.alloc (.cells #[.slice x6 X6.1.lines.length y6, .int .i64 X6.1.anc.line, .int .i64 X6.1.anc.col, .int .i64 X6.1.foc.line, .int .i64 X6.1.foc.col, .int .i64 X6.1.on, .int .i64 X6.1.off] 26) = m6 := ⟨_, rfl⟩
  rw [hm6]
  have hbm6 : Below w6.heap.size w6 m6 := hm6 ▸ below1 (Below.refl _ _) _
  have zm6 : w6.heap.size + 1 ≤ m6.heap.size := by rw [← hm6]; simp
  have n6 : m6.heap[w6.heap.size]? = some (.cells #[.slice x6 X6.1.lines.length y6, .int .i64 X6.1.anc.line, .int .i64 X6.1.anc.col, .int .i64 X6.1.foc.line, .int .i64 X6.1.foc.col, .int .i64 X6.1.on, .int .i64 X6.1.off] 26) := hm6 ▸ heap_new _ _ rfl
  have hc6 := below_from hb6 hbm6
  have HD6 := Lib.hid (HV6.out.below hbm6)
  have hh6 := below_from hst6 hbm6
  clear hm6 q0 g0 r0 e6
  have nA := heap_below hh6 nA
  have nB := heap_below hh6 nB
  have n5 := heap_below hh6 n5
  have HD5 := Lib.hid (HD5.out.below hh6)
  with_reducible refine (HP.out _ hc6).mono ?_
  intro e w7 hsaid
  obtain ⟨v7, rfl, hv7, hst7⟩ := hsaid
  obtain ⟨x7, y7, hve7⟩ := hv7.slice
  subst hve7
  have hb7 := below_from hc6 hst7
  have HV7 := Lib.hid hv7
  clear hv7
  obtain ⟨q0, g0⟩ := blk (HB.out _ hb7)
  have r0 := on1 (HB.out _ hb7)
  have u7 := hst7.size
  have hz7 := hb7.size
  have e7 : ¬ w7.heap.size = w.heap.size := by omega
  go_upto_region 8 with fail
  obtain ⟨m7, hm7⟩ : ∃ m7, w7.alloc (.cells #[.slice x7 X7.1.lines.length y7, .int .i64 X7.1.anc.line, .int .i64 X7.1.anc.col, .int .i64 X7.1.foc.line, .int .i64 X7.1.foc.col, .int .i64 X7.1.on, .int .i64 X7.1.off] 26) = m7 := ⟨_, rfl⟩
  rw [hm7]
  have hbm7 : Below w7.heap.size w7 m7 := hm7 ▸ below1 (Below.refl _ _) _
  have zm7 : w7.heap.size + 1 ≤ m7.heap.size := by rw [← hm7]; simp
  have n7 : m7.heap[w7.heap.size]? = some (.cells #[.slice x7 X7.1.lines.length y7, .int .i64 X7.1.anc.line, .int .i64 X7.1.anc.col, .int .i64 X7.1.foc.line, .int .i64 X7.1.foc.col, .int .i64 X7.1.on, .int .i64 X7.1.off] 26) := hm7 ▸ heap_new _ _ rfl
  have hc7 := below_from hb7 hbm7
  have HD7 := Lib.hid (HV7.out.below hbm7)
  have hh7 := below_from hst7 hbm7
  clear hm7 q0 g0 r0 e7
  have nA := heap_below hh7 nA
  have nB := heap_below hh7 nB
  have n5 := heap_below hh7 n5
  have HD5 := Lib.hid (HD5.out.below hh7)
  have n6 := heap_below hh7 n6
  have HD6 := Lib.hid (HD6.out.below hh7)
  have HK : Hid (∀ W, Below m7.heap.size m7 W → W.heap[w.heap.size]? = some (.cells #[.slice va s.lines.length vc, .int .i64 s.anc.line, .int .i64 s.anc.col, .int .i64 s.foc.line, .int .i64 s.foc.col, .int .i64 s.on, .int .i64 s.off] 26) ∧ W.heap[w3.heap.size]? = some (.cells #[.int .i64 A.line, .int .i64 A.col] 24) ∧ W.heap[w3.heap.size + 1]? = some (.cells #[.int .i64 B.line, .int .i64 B.col] 24) ∧ W.heap[w5.heap.size]? = some (.cells #[.slice x5 X5.1.lines.length y5, .int .i64 X5.1.anc.line, .int .i64 X5.1.anc.col, .int .i64 X5.1.foc.line, .int .i64 X5.1.foc.col, .int .i64 X5.1.on, .int .i64 X5.1.off] 26) ∧ W.heap[w6.heap.size]? = some (.cells #[.slice x6 X6.1.lines.length y6, .int .i64 X6.1.anc.line, .int .i64 X6.1.anc.col, .int .i64 X6.1.foc.line, .int .i64 X6.1.foc.col, .int .i64 X6.1.on, .int .i64 X6.1.off] 26) ∧ W.heap[w7.heap.size]? = some (.cells #[.slice x7 X7.1.lines.length y7, .int .i64 X7.1.anc.line, .int .i64 X7.1.anc.col, .int .i64 X7.1.foc.line, .int .i64 X7.1.foc.col, .int .i64 X7.1.on, .int .i64 X7.1.off] 26)) := Lib.hid fun W hW => ⟨HB.out W (below_from hc7 hW), heap_below hW nA, heap_below hW nB, heap_below hW n5, heap_below hW n6, heap_below hW n7⟩
  have HVm : Hid (LinsR m7 S (.slice va s.lines.length vc) s.lines) := Lib.hid (HV.out m7 hc7)
  have HCmp : Hid (∀ (p q : Ps) W, Calls Tryz.prog 32 #[.agg #[.int .i64 p.line, .int .i64 p.col], .agg #[.int .i64 q.line, .int .i64 q.col]] W fun e w' => e = .returned (.int .i64 (cmpP p q)) ∧ Below W.heap.size W w') := Lib.hid fun p q W => refCmp_any p q W
  have HAm : Hid (∀ W, Below m7.heap.size m7 W → Calls Tryz.prog 18 #[] W fun e w' => e = .returned (.bool true) ∧ Below W.heap.size W w') := Lib.hid fun W hW => HA.out W (below_from hc7 hW)
  have hm7 : Below m7.heap.size m7 m7 := Below.refl _ _
  have HC7 := Lib.hid hc7
  have hsl : s.lines.length ≤ 1000000 := HSF.out.2.1
  clear nA nB n5 n6 n7 hg hq hsh
  obtain ⟨vs, ns, hvs, hns, hnm, hsx⟩ := lins_shape HVm.out
  cases hvs
  have HSX := Lib.hid hsx
  unfold maxLen at hnm
  clear hsx
  obtain ⟨q0, g0⟩ := blk (HK.out _ hm7).1
  have HM7 := Lib.hid hm7
  go_wp2_with fail
  clear q0 g0
  go_loopw [16, 17, 18, 19, 20, 21, 22, 23] (fun i _ _ _ _ _ _ _ wr => ∃ k : Nat, k ≤ s.lines.length ∧ i = .int .i64 k ∧ Hid (Below m7.heap.size m7 wr)) (fun i _ _ _ _ _ _ _ _ => s.lines.length - (intOf i).toNat)
  case atStart => exact ⟨0, Nat.zero_le _, rfl, HM7⟩
  case round =>
    obtain ⟨k, hk, rfl, HW⟩ := hrel
    obtain ⟨wo, rfl⟩ : ∃ wo : World, wo = wr := ⟨_, rfl⟩
    obtain ⟨q0, g0⟩ := blk (HK.out _ HW.out).1
    have k0 : (0 : Int) ≤ (k : Int) := Int.natCast_nonneg _
    by_cases hlt : k < s.lines.length
    · obtain ⟨l, hl, _⟩ := getOf s.lines k hlt
      obtain ⟨b0, o0, la, lc, ca, cc, hve0, hAt⟩ := HSX.out k l hl
      cases hve0
      have hfl := (HSF.out.2.2 l (List.mem_of_getElem? hl)).2
      have HL := Lib.hid hl
      have HAT := Lib.hid hAt
      have HCA : Hid (∀ W, Below m7.heap.size m7 W → W.cell? ⟨b0, o0 + k * 4 + 3, none⟩ = some (.slice ca l.cells.length cc)) := Lib.hid fun W hW => (hW.cell (p := ⟨b0, o0 + k * 4 + 3, none⟩) hAt.lt).trans hAt.cells
      have k1 : (k : Int) < (s.lines.length : Int) := by omega
      have c3 := HCA.out _ HW.out
      clear hl hAt
      go_wp2_with fail
      go_loopw [17, 18, 19, 20, 21, 22, 23] (fun j _ _ _ _ _ _ wi => ∃ q : Nat, q ≤ l.cells.length ∧ j = .int .i64 q ∧ Hid (Below m7.heap.size m7 wi)) (fun j _ _ _ _ _ _ _ => l.cells.length - (intOf j).toNat)
      case atStart => exact ⟨0, Nat.zero_le _, rfl, HW⟩
      case round =>
        clear q0 g0 c3
        obtain ⟨q, hq, rfl, HWi⟩ := hrel
        obtain ⟨wi, rfl⟩ : ∃ wi : World, wi = wr := ⟨_, rfl⟩
        obtain ⟨q0, g0⟩ := blk (HK.out _ HWi.out).1
        have c3 := HCA.out _ HWi.out
        have q0' : (0 : Int) ≤ (q : Int) := Int.natCast_nonneg _
        by_cases hlt2 : q < l.cells.length
        · obtain ⟨z, hzq, _⟩ := getOf l.cells q hlt2
          obtain ⟨a9, c9, he9, hc9, hm9, hx9⟩ := cels_shape HAT.out.cellsR
          cases he9
          obtain ⟨p9, r9, rfl, hp9, d0, d1, d2⟩ := hx9 q z hzq
          have d0 := (HWi.out.cell (p := ⟨p9, r9 + q * 3, none⟩) hp9).trans d0
          have d1 := (HWi.out.cell (p := ⟨p9, r9 + q * 3 + 1, none⟩) hp9).trans d1
          have d2 := (HWi.out.cell (p := ⟨p9, r9 + q * 3 + 2, none⟩) hp9).trans d2
          have HQ := Lib.hid hzq
          have q1 : (q : Int) < (l.cells.length : Int) := by omega
          have hws := HWi.out.size
          unfold maxLen at hm9
          have x0 := on1 (HK.out _ HWi.out).1
          have x3 := cell_on c3
          have y0 := cell_on d0
          have y1 := cell_on d1
          have y2 := cell_on d2
          clear hzq hx9
          go_upto_region 16 with fail
          clear x0 x3 y0 y1 y2 q0 g0 c3 d0 d1 d2
          obtain ⟨m, hm⟩ : ∃ m, (wi.alloc (.cells #[.int .i64 k, .int .i64 q] 24)).alloc (.cells #[.int .i32 z.r, .int .i64 z.bits, .string ⟨z.href.toArray⟩] 44) = m := ⟨_, rfl⟩
          rw [hm]
          have hbm : Below wi.heap.size wi m := hm ▸ below2 (Below.refl _ _) _ _
          have nP : m.heap[wi.heap.size]? = some (.cells #[.int .i64 k, .int .i64 q] 24) := hm ▸ heap_old _ _ (heap_new _ _ rfl)
          have nZ : m.heap[wi.heap.size + 1]? = some (.cells #[.int .i32 z.r, .int .i64 z.bits, .string ⟨z.href.toArray⟩] 44) := hm ▸ heap_new _ _ (by simp)
          have HMM := Lib.hid (below_from HWi.out hbm)
          have HN : Hid (∀ W, Below m.heap.size m W → W.heap[wi.heap.size]? = some (.cells #[.int .i64 k, .int .i64 q] 24) ∧ W.heap[wi.heap.size + 1]? = some (.cells #[.int .i32 z.r, .int .i64 z.bits, .string ⟨z.href.toArray⟩] 44)) := Lib.hid fun W hW => ⟨heap_below hW nP, heap_below hW nZ⟩
          have hm0 : Below m.heap.size m m := Below.refl _ _
          clear hm hbm nP nZ
          obtain ⟨inn, hinn⟩ : ∃ b, (decide (cmpP A ⟨k, q⟩ ≤ 0) && decide (cmpP ⟨k, q⟩ B < 0)) = b := ⟨_, rfl⟩
          have HIN := Lib.hid hinn
          clear hinn
          go_cut [20] from 99 to 108 (fun r wx => r = .bool inn ∧ Below m.heap.size m wx)
          case first => as_aux_lemma =>
            have hin := HIN.out
            obtain ⟨s1, t1⟩ := blk (HK.out _ HMM.out).2.1
            obtain ⟨s2, t2⟩ := blk (HK.out _ HMM.out).2.2.1
            obtain ⟨s3, t3⟩ := blk (HN.out _ hm0).1
            have HC1 := Lib.hid (HCmp.out A ⟨k, q⟩ m)
            have HC2 := Lib.hid (fun W => HCmp.out ⟨k, q⟩ B W)
            generalize cmpP A ⟨k, q⟩ = x1 at *
            generalize cmpP ⟨k, q⟩ B = x2 at *
            by_cases h1 : x1 ≤ 0
            · rw [decide_eq_true h1, Bool.true_and] at hin
              subst hin
              go_wp2_with fail
              with_reducible refine HC1.out.mono ?_
              rintro e wa ⟨rfl, hba⟩
              obtain ⟨s4, t4⟩ := blk (HK.out _ (below_from HMM.out hba)).2.2.1
              obtain ⟨s5, t5⟩ := blk (HN.out _ hba).1
              go_wp2_with fail
              with_reducible refine (HC2.out _).mono ?_
              rintro e wb ⟨rfl, hbb⟩
              have hfin := below_from hba hbb
              go_wp2_with fail
              go_meet
              case rel => exact ⟨rfl, hfin⟩
            · rw [decide_eq_false h1, Bool.false_and] at hin
              subst hin
              go_wp2_with fail
              with_reducible refine HC1.out.mono ?_
              rintro e wa ⟨rfl, hba⟩
              go_wp2_with fail
              go_meet
              case rel => exact ⟨rfl, hba⟩
          case rest =>
          obtain ⟨rfl, hbA⟩ := hcut
          have hzz := HZ5.out
          go_upto_if 110 with fail
          clear hzz
          go_cut [21] from 111 to 144 (fun _ wx => Below m.heap.size m wx)
          case first => as_aux_lemma =>
            cases z5
            · go_wp2_with fail
              go_meet
              case rel => exact hbA
            · have h0 : X5.2 = 0 := by simpa using HZ5.out
              obtain ⟨x, hxl, hxlen, hxc⟩ := HX5.out h0 k l HL.out
              obtain ⟨y, hy, hyz, hR⟩ := hxc q z HQ.out
              obtain ⟨b1, o1, n1, p1, r1, m1, hve1, hb1l, hp1l, hn1, hm1, hn1', hm1', g3, g0', g1', g2'⟩ := lin_cell (DocR.read HD5.out) hxl hy
              cases hve1
              have hWc := below_from HMM.out hbA
              have g3 := (hWc.cell (p := ⟨b1, o1 + k * 4 + 3, none⟩) hb1l).trans g3
              have g0' := (hWc.cell (p := ⟨p1, r1 + q * 3, none⟩) hp1l).trans g0'
              have g1' := (hWc.cell (p := ⟨p1, r1 + q * 3 + 1, none⟩) hp1l).trans g1'
              have g2' := (hWc.cell (p := ⟨p1, r1 + q * 3 + 2, none⟩) hp1l).trans g2'
              have v1 : (k : Int) < (X5.1.lines.length : Int) := by have := (List.getElem?_eq_some_iff.1 hxl).1; omega
              have v2 : (q : Int) < (x.cells.length : Int) := by omega
              obtain ⟨s1, t1⟩ := blk (HK.out _ hWc).2.2.2.1
              obtain ⟨s2, t2⟩ := blk (HN.out _ hbA).2
              have r2 := on1 (HN.out _ hbA).2
              have hwz : wi.heap.size + 1 < wc.heap.size := by have := (Array.getElem?_eq_some_iff.1 (HN.out _ hbA).2).1; exact this
              have e9 : ¬ wc.heap.size = wi.heap.size + 1 := by omega
              have e9' : ¬ wi.heap.size + 1 = wc.heap.size := by omega
              unfold maxLen at hn1 hm1
              have hin := HIN.out
              have hg := guardCell
              have hxn : (x.cells.length : Int) = (l.cells.length : Int) := by omega
              have HXN := Lib.hid hxn
              clear hxn hxlen hxc hxl hy
              have f1 : (bits .andNot .i64 y.bits b != bits .andNot .i64 z.bits b) = false := by rw [hR.1]; simp
              have f2 : (y.href == z.href) = true := by rw [hR.2]; simp
              clear hR
              have HYZ : Hid (inn = false → y = z) := Lib.hid fun hf => hyz (by
                rw [HAB.out]
                intro ⟨a1, a2⟩
                rw [hf] at hin
                rw [decide_eq_true a1, decide_eq_true a2] at hin
                exact absurd hin (by simp))
              clear hin hyz h0
              cases inn
              · obtain rfl : y = z := HYZ.out rfl
                have hne : ∀ w : World, (binOp .neq 44 (.agg #[.int .i32 y.r, .int .i64 y.bits, .string ⟨y.href.toArray⟩]) (.agg #[.int .i32 y.r, .int .i64 y.bits, .string ⟨y.href.toArray⟩])).run Tryz.prog w = .ok (.bool false) w := fun w => by
                  rw [run_neq_cell, decide_eq_true rfl]
                  rfl
                go_wp2_with fail
                go_meet
                case rel => exact below1' hbA _
              · go_wp2_with fail
                go_meet
                case rel => exact below1' hbA _
          case rest =>
          have hbB := hcut
          have hzz := HZ6.out
          go_upto_if 146 with fail
          clear hzz
          go_cut [22] from 147 to 169 (fun _ wx => Below m.heap.size m wx)
          case first => as_aux_lemma =>
            cases z6
            · go_wp2_with fail
              go_meet
              case rel => exact hbB
            · have h0 : X6.2 = 0 := by simpa using HZ6.out
              obtain ⟨x, hxl, hxlen, hxc⟩ := HX6.out h0 k l HL.out
              obtain ⟨y, hy, hyz, hR⟩ := hxc q z HQ.out
              obtain ⟨b1, o1, n1, p1, r1, m1, hve1, hb1l, hp1l, hn1, hm1, hn1', hm1', g3, g0', g1', g2'⟩ := lin_cell (DocR.read HD6.out) hxl hy
              cases hve1
              have hWc := below_from HMM.out hbB
              have g3 := (hWc.cell (p := ⟨b1, o1 + k * 4 + 3, none⟩) hb1l).trans g3
              have g0' := (hWc.cell (p := ⟨p1, r1 + q * 3, none⟩) hp1l).trans g0'
              have g1' := (hWc.cell (p := ⟨p1, r1 + q * 3 + 1, none⟩) hp1l).trans g1'
              have g2' := (hWc.cell (p := ⟨p1, r1 + q * 3 + 2, none⟩) hp1l).trans g2'
              have v1 : (k : Int) < (X6.1.lines.length : Int) := by have := (List.getElem?_eq_some_iff.1 hxl).1; omega
              have v2 : (q : Int) < (x.cells.length : Int) := by omega
              obtain ⟨s1, t1⟩ := blk (HK.out _ hWc).2.2.2.2.1
              obtain ⟨s2, t2⟩ := blk (HN.out _ hbB).2
              have r2 := on1 (HN.out _ hbB).2
              have hwz : wi.heap.size + 1 < wc.heap.size := by have := (Array.getElem?_eq_some_iff.1 (HN.out _ hbB).2).1; exact this
              have e9 : ¬ wc.heap.size = wi.heap.size + 1 := by omega
              have e9' : ¬ wi.heap.size + 1 = wc.heap.size := by omega
              unfold maxLen at hn1 hm1
              have hin := HIN.out
              have hg := guardCell
              have hxn : (x.cells.length : Int) = (l.cells.length : Int) := by omega
              have HXN := Lib.hid hxn
              clear hxn hxlen hxc hxl hy
              have f1 : (y.bits != z.bits) = false := by rw [hR]; simp
              clear hR
              have HYZ : Hid (inn = false → y = z) := Lib.hid fun hf => hyz (by
                rw [HAB.out]
                intro ⟨a1, a2⟩
                rw [hf] at hin
                rw [decide_eq_true a1, decide_eq_true a2] at hin
                exact absurd hin (by simp))
              clear hin hyz h0
              cases inn
              · obtain rfl : y = z := HYZ.out rfl
                have hne : ∀ w : World, (binOp .neq 44 (.agg #[.int .i32 y.r, .int .i64 y.bits, .string ⟨y.href.toArray⟩]) (.agg #[.int .i32 y.r, .int .i64 y.bits, .string ⟨y.href.toArray⟩])).run Tryz.prog w = .ok (.bool false) w := fun w => by
                  rw [run_neq_cell, decide_eq_true rfl]
                  rfl
                go_wp2_with fail
                go_meet
                case rel => exact below1' hbB _
              · go_wp2_with fail
                go_meet
                case rel => exact below1' hbB _
          case rest =>
          have hbC := hcut
          have hzz := HZ7.out
          focus
            cases z7
            · have HD9 := Lib.hid (below_from HMM.out hbC)
              go_wp2_with fail
              go_roundw
              case rel => exact ⟨q + 1, hlt2, by go_num, HD9⟩
              case measure => simp [intOf]; omega
            · have h0 : X7.2 = 0 := by simpa using HZ7.out
              obtain ⟨x, hxl, hxlen, hxc⟩ := HX7.out h0 k l HL.out
              obtain ⟨y, hy, hyz, hR⟩ := hxc q z HQ.out
              obtain ⟨b1, o1, n1, p1, r1, m1, hve1, hb1l, hp1l, hn1, hm1, hn1', hm1', g3, g0', g1', g2'⟩ := lin_cell (DocR.read HD7.out) hxl hy
              cases hve1
              have hWc := below_from HMM.out hbC
              have g3 := (hWc.cell (p := ⟨b1, o1 + k * 4 + 3, none⟩) hb1l).trans g3
              have g0' := (hWc.cell (p := ⟨p1, r1 + q * 3, none⟩) hp1l).trans g0'
              have g1' := (hWc.cell (p := ⟨p1, r1 + q * 3 + 1, none⟩) hp1l).trans g1'
              have g2' := (hWc.cell (p := ⟨p1, r1 + q * 3 + 2, none⟩) hp1l).trans g2'
              have v1 : (k : Int) < (X7.1.lines.length : Int) := by have := (List.getElem?_eq_some_iff.1 hxl).1; omega
              have v2 : (q : Int) < (x.cells.length : Int) := by omega
              obtain ⟨s1, t1⟩ := blk (HK.out _ hWc).2.2.2.2.2
              obtain ⟨s2, t2⟩ := blk (HN.out _ hbC).2
              have r2 := on1 (HN.out _ hbC).2
              have hwz : wi.heap.size + 1 < wc.heap.size := by have := (Array.getElem?_eq_some_iff.1 (HN.out _ hbC).2).1; exact this
              have e9 : ¬ wc.heap.size = wi.heap.size + 1 := by omega
              have e9' : ¬ wi.heap.size + 1 = wc.heap.size := by omega
              unfold maxLen at hn1 hm1
              have hin := HIN.out
              have hg := guardCell
              have HD9 : Hid (∀ X, Hid (Below m7.heap.size m7 (wc.alloc X))) := Lib.hid fun X => Lib.hid (below_from HMM.out (below1' hbC X))
              have hxn : (x.cells.length : Int) = (l.cells.length : Int) := by omega
              have HXN := Lib.hid hxn
              clear hxn hxlen hxc hxl hy
              have f2 : (y.href == z.href) = true := by rw [hR]; simp
              clear hR
              have HYZ : Hid (inn = false → y = z) := Lib.hid fun hf => hyz (by
                rw [HAB.out]
                intro ⟨a1, a2⟩
                rw [hf] at hin
                rw [decide_eq_true a1, decide_eq_true a2] at hin
                exact absurd hin (by simp))
              clear hin hyz h0
              cases inn
              · obtain rfl : y = z := HYZ.out rfl
                have hne : ∀ w : World, (binOp .neq 44 (.agg #[.int .i32 y.r, .int .i64 y.bits, .string ⟨y.href.toArray⟩]) (.agg #[.int .i32 y.r, .int .i64 y.bits, .string ⟨y.href.toArray⟩])).run Tryz.prog w = .ok (.bool false) w := fun w => by
                  rw [run_neq_cell, decide_eq_true rfl]
                  rfl
                go_wp2_with fail
                go_roundw
                case rel => exact ⟨q + 1, hlt2, by go_num, HD9.out _⟩
                case measure => simp [intOf]; omega
              · go_wp2_with fail
                go_roundw
                case rel => exact ⟨q + 1, hlt2, by go_num, HD9.out _⟩
                case measure => simp [intOf]; omega
        · obtain rfl : q = l.cells.length := by omega
          go_wp2_with fail
          go_roundw
          case rel => exact ⟨k + 1, hlt, by go_num, HWi⟩
          case measure => simp [intOf]; omega
    · obtain rfl : k = s.lines.length := by omega
      go_wp2_with fail
      with_reducible refine (HAm.out _ HW.out).mono ?_
      rintro e wz ⟨rfl, hstz⟩
      go_wp2_with fail
      go_ret
      exact ⟨rfl, H1.out.trans ((below_from HC7.out (below_from HW.out hstz)).mono hs1)⟩
theorem lawStOut_str (v : Value) (s : St) (t : Int) (hr : ByteArray) (w : World) (S : Nat → Prop) (h : LinsR w S v s.lines) (sn : Sane s.lines) (he : EnvT w) :
    Calls Tryz.prog 4 #[stV v s, .int .i64 t, .string hr] w fun e w' => e = .returned (.bool true) ∧ Below w.heap.size w w' := by
  have := lawStOut_any v s t hr.data.toList w S h sn he
  rw [show (⟨hr.data.toList.toArray⟩ : ByteArray) = hr by simp] at this
  exact this
end Go.Proofs.YtpndnbjpnajaaaaGreatDoor
