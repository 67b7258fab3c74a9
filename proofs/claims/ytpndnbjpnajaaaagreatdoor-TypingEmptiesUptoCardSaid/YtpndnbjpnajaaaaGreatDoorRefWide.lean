/- The law's key. -/
import Derived.Test.YtpndnbjpnajaaaaGreatDoorOpenInts
import Derived.Test.YtpndnbjpnajaaaaGreatDoorRefTarget
import Derived.Test.YtpndnbjpnajaaaaGreatDoorStyToggle
import Derived.Test.YtpndnbjpnajaaaaGreatDoorReplace
set_option linter.unusedVariables false
set_option linter.unusedSimpArgs false
namespace Go.Proofs.Qw
open Go.RowKit Go.Proofs.YtpndnbjpnajaaaaGreatDoor
def keyK (s : St) (n : Int) (t : ByteArray) : Doc × Ps × Int := if n = 0 ∨ n = 1 then textK s t else if n = 2 then paraK s else if n = 3 then backK s else if n = 4 then forthK s else eraseK s
theorem keyK_ok {s : St} (h : mayS s = true) (hr : RngS s) (n : Int) (t : ByteArray) : KeyOk (keyS s (keyK s n t)) := by
  unfold keyK
  split
  · exact text_ok h hr t
  · split
    · exact para_ok h
    · split
      · exact back_ok h
      · split
        · exact forth_ok h
        · exact erase_ok h
theorem closed_rng (d : Doc) (p : Ps) : RngS (closedS d p) := ⟨⟨Int.le_refl 0, (by decide : (0 : Int) ≤ 15)⟩, ⟨Int.le_refl 0, (by decide : (0 : Int) ≤ 15)⟩⟩
end Go.Proofs.Qw
namespace Go.Proofs.YtpndnbjpnajaaaaGreatDoor
open Go.RowKit
open Go.Proofs.Qw
attribute [local go_sem] Oper.semAt_some
set_option maxRecDepth 100000 in
set_option maxHeartbeats 4000000 in
theorem key_any (v : Value) (s : St) (n0 : Int) (t : ByteArray) (w : World) (S : Nat → Prop) (h : LinsR w S v s.lines) (he : EnvT w) (hs : Small s.lines) (hf : Fits s.lines) (hts : t.size ≤ 1000000) :
    Calls Tryz.prog 66 #[stV v s, .int .i64 n0, .string t] w (StSaid (keyS s (keyK s (bits .and .i64 n0 7) t)) w) := by
  obtain ⟨W1, hW1, hB, hz, k0, k1⟩ := st_two w v s
  have HB : Hid (∀ W, Below W1.heap.size W1 W → W.heap[w.heap.size]? = some (.cells #[v, .int .i64 s.anc.line, .int .i64 s.anc.col, .int .i64 s.foc.line, .int .i64 s.foc.col, .int .i64 s.on, .int .i64 s.off] 26) ∧ W.heap[w.heap.size + 1]? = some (.cells #[.slice none 0 0, .int .i64 0, .int .i64 0, .int .i64 0, .int .i64 0, .int .i64 0, .int .i64 0] 26)) := Lib.hid fun W hW => ⟨heap_below hW k0, heap_below hW k1⟩
  have hs1 := hB.size
  have H1 := Lib.hid hB
  have HT := Lib.hid (typText_any v s t W1 S (h.below (rdLin_stable _) hB) (he.below hB) hs hf hts)
  have HPa := Lib.hid (typParagraph_any v s W1 S (h.below (rdLin_stable _) hB) (he.below hB) hs hf)
  have HBa := Lib.hid (typBack_any v s W1 S (h.below (rdLin_stable _) hB) (he.below hB) hs hf)
  have HFo := Lib.hid (typForth_any v s W1 S (h.below (rdLin_stable _) hB) (he.below hB) hs hf)
  have HEr := Lib.hid (typErase_any v s W1 S (h.below (rdLin_stable _) hB) (he.below hB) hs hf)
  obtain ⟨n, hn⟩ : ∃ n, bits .and .i64 n0 7 = n := ⟨_, rfl⟩
  have HR : Hid (keyK s n t = if n = 0 ∨ n = 1 then textK s t else if n = 2 then paraK s else if n = 3 then backK s else if n = 4 then forthK s else eraseK s) := Lib.hid rfl
  rw [hn]
  obtain ⟨p0, f0⟩ := blk k0
  obtain ⟨p1, f1⟩ := blk k1
  obtain ⟨va, vc, rfl⟩ := h.slice
  clear h he hs hf k0 k1 hB
  rcases (show n = 0 ∨ n = 1 ∨ n = 2 ∨ n = 3 ∨ n = 4 ∨ (¬ (n = 0 ∨ n = 1) ∧ ¬ n = 2 ∧ ¬ n = 3 ∧ ¬ n = 4) by omega) with rfl | rfl | rfl | rfl | rfl | ⟨h0, h2, h3, h4⟩
  · have hX := HR.out.trans (if_pos (.inl rfl))
    obtain ⟨X, hXX⟩ : ∃ X, keyS s (textK s t) = X := ⟨_, rfl⟩
    have HC := Lib.hid HT.out
    rw [hX, hXX]
    rw [hXX] at HC
    clear hX hXX HT HPa HBa HFo HEr HR
    skip
    go_enter Tryz.func66, Tryz.ntmps66
    go_wp2_with (go_at_call 54; refine HC.out.mono ?_; intro e w2 hsaid; obtain ⟨v2, rfl, hv2, hb2⟩ := hsaid; obtain ⟨a2, c2, rfl⟩ := hv2.slice; have HV2 := Lib.hid hv2; clear hv2; obtain ⟨q2, g2⟩ := blk (HB.out _ hb2).2)
    refine bodyPost_ret (results_st_e rfl _ _ (w.heap.size + 1) (.slice a2 X.1.lines.length c2) (.int .i64 X.1.anc.line) (.int .i64 X.1.anc.col) (.int .i64 X.1.foc.line) (.int .i64 X.1.foc.col) (.int .i64 X.1.on) (.int .i64 X.1.off) (.int .i64 X.2) rfl rfl (by simp [heap_set, putIn, (HB.out _ hb2).2])) rfl ?_
    have hfin := H1.out.trans (hb2.mono hs1)
    have hv2 := HV2.out
    exact ⟨_, rfl, (SliceR.stable (rdLin_stable _) hv2 (by (repeat' (first | (with_reducible exact Keeps.refl _ _) | (with_reducible refine Keeps.set ?_ ?_ _) | (with_reducible refine Keeps.alloc ?_ _) | (with_reducible refine Keeps.drew ?_) | (first | fail) | (simp; omega)))) (fun b h _ => (by have h' := h; (try simp at h'); omega))), by (repeat' (first | (with_reducible exact Below.refl _ _) | (with_reducible assumption) | (with_reducible refine Below.alloc ?_ ?_ _) | (with_reducible refine Below.drew ?_) | (with_reducible refine drewN_below ?_) | (with_reducible refine Below.setCell ?_ ?_ _) | go_size))⟩
  · have hX := HR.out.trans (if_pos (.inr rfl))
    obtain ⟨X, hXX⟩ : ∃ X, keyS s (textK s t) = X := ⟨_, rfl⟩
    have HC := Lib.hid HT.out
    rw [hX, hXX]
    rw [hXX] at HC
    clear hX hXX HT HPa HBa HFo HEr HR
    skip
    go_enter Tryz.func66, Tryz.ntmps66
    go_wp2_with (go_at_call 54; refine HC.out.mono ?_; intro e w2 hsaid; obtain ⟨v2, rfl, hv2, hb2⟩ := hsaid; obtain ⟨a2, c2, rfl⟩ := hv2.slice; have HV2 := Lib.hid hv2; clear hv2; obtain ⟨q2, g2⟩ := blk (HB.out _ hb2).2)
    refine bodyPost_ret (results_st_e rfl _ _ (w.heap.size + 1) (.slice a2 X.1.lines.length c2) (.int .i64 X.1.anc.line) (.int .i64 X.1.anc.col) (.int .i64 X.1.foc.line) (.int .i64 X.1.foc.col) (.int .i64 X.1.on) (.int .i64 X.1.off) (.int .i64 X.2) rfl rfl (by simp [heap_set, putIn, (HB.out _ hb2).2])) rfl ?_
    have hfin := H1.out.trans (hb2.mono hs1)
    have hv2 := HV2.out
    exact ⟨_, rfl, (SliceR.stable (rdLin_stable _) hv2 (by (repeat' (first | (with_reducible exact Keeps.refl _ _) | (with_reducible refine Keeps.set ?_ ?_ _) | (with_reducible refine Keeps.alloc ?_ _) | (with_reducible refine Keeps.drew ?_) | (first | fail) | (simp; omega)))) (fun b h _ => (by have h' := h; (try simp at h'); omega))), by (repeat' (first | (with_reducible exact Below.refl _ _) | (with_reducible assumption) | (with_reducible refine Below.alloc ?_ ?_ _) | (with_reducible refine Below.drew ?_) | (with_reducible refine drewN_below ?_) | (with_reducible refine Below.setCell ?_ ?_ _) | go_size))⟩
  · have hX := HR.out.trans ((if_neg (by decide)).trans (if_pos rfl))
    obtain ⟨X, hXX⟩ : ∃ X, keyS s (paraK s) = X := ⟨_, rfl⟩
    have HC := Lib.hid HPa.out
    rw [hX, hXX]
    rw [hXX] at HC
    clear hX hXX HT HPa HBa HFo HEr HR
    skip
    go_enter Tryz.func66, Tryz.ntmps66
    go_wp2_with (go_at_call 48; refine HC.out.mono ?_; intro e w2 hsaid; obtain ⟨v2, rfl, hv2, hb2⟩ := hsaid; obtain ⟨a2, c2, rfl⟩ := hv2.slice; have HV2 := Lib.hid hv2; clear hv2; obtain ⟨q2, g2⟩ := blk (HB.out _ hb2).2)
    refine bodyPost_ret (results_st_e rfl _ _ (w.heap.size + 1) (.slice a2 X.1.lines.length c2) (.int .i64 X.1.anc.line) (.int .i64 X.1.anc.col) (.int .i64 X.1.foc.line) (.int .i64 X.1.foc.col) (.int .i64 X.1.on) (.int .i64 X.1.off) (.int .i64 X.2) rfl rfl (by simp [heap_set, putIn, (HB.out _ hb2).2])) rfl ?_
    have hfin := H1.out.trans (hb2.mono hs1)
    have hv2 := HV2.out
    exact ⟨_, rfl, (SliceR.stable (rdLin_stable _) hv2 (by (repeat' (first | (with_reducible exact Keeps.refl _ _) | (with_reducible refine Keeps.set ?_ ?_ _) | (with_reducible refine Keeps.alloc ?_ _) | (with_reducible refine Keeps.drew ?_) | (first | fail) | (simp; omega)))) (fun b h _ => (by have h' := h; (try simp at h'); omega))), by (repeat' (first | (with_reducible exact Below.refl _ _) | (with_reducible assumption) | (with_reducible refine Below.alloc ?_ ?_ _) | (with_reducible refine Below.drew ?_) | (with_reducible refine drewN_below ?_) | (with_reducible refine Below.setCell ?_ ?_ _) | go_size))⟩
  · have hX := HR.out.trans ((if_neg (by decide)).trans ((if_neg (by decide)).trans (if_pos rfl)))
    obtain ⟨X, hXX⟩ : ∃ X, keyS s (backK s) = X := ⟨_, rfl⟩
    have HC := Lib.hid HBa.out
    rw [hX, hXX]
    rw [hXX] at HC
    clear hX hXX HT HPa HBa HFo HEr HR
    skip
    go_enter Tryz.func66, Tryz.ntmps66
    go_wp2_with (go_at_call 50; refine HC.out.mono ?_; intro e w2 hsaid; obtain ⟨v2, rfl, hv2, hb2⟩ := hsaid; obtain ⟨a2, c2, rfl⟩ := hv2.slice; have HV2 := Lib.hid hv2; clear hv2; obtain ⟨q2, g2⟩ := blk (HB.out _ hb2).2)
    refine bodyPost_ret (results_st_e rfl _ _ (w.heap.size + 1) (.slice a2 X.1.lines.length c2) (.int .i64 X.1.anc.line) (.int .i64 X.1.anc.col) (.int .i64 X.1.foc.line) (.int .i64 X.1.foc.col) (.int .i64 X.1.on) (.int .i64 X.1.off) (.int .i64 X.2) rfl rfl (by simp [heap_set, putIn, (HB.out _ hb2).2])) rfl ?_
    have hfin := H1.out.trans (hb2.mono hs1)
    have hv2 := HV2.out
    exact ⟨_, rfl, (SliceR.stable (rdLin_stable _) hv2 (by (repeat' (first | (with_reducible exact Keeps.refl _ _) | (with_reducible refine Keeps.set ?_ ?_ _) | (with_reducible refine Keeps.alloc ?_ _) | (with_reducible refine Keeps.drew ?_) | (first | fail) | (simp; omega)))) (fun b h _ => (by have h' := h; (try simp at h'); omega))), by (repeat' (first | (with_reducible exact Below.refl _ _) | (with_reducible assumption) | (with_reducible refine Below.alloc ?_ ?_ _) | (with_reducible refine Below.drew ?_) | (with_reducible refine drewN_below ?_) | (with_reducible refine Below.setCell ?_ ?_ _) | go_size))⟩
  · have hX := HR.out.trans ((if_neg (by decide)).trans ((if_neg (by decide)).trans ((if_neg (by decide)).trans (if_pos rfl))))
    obtain ⟨X, hXX⟩ : ∃ X, keyS s (forthK s) = X := ⟨_, rfl⟩
    have HC := Lib.hid HFo.out
    rw [hX, hXX]
    rw [hXX] at HC
    clear hX hXX HT HPa HBa HFo HEr HR
    skip
    go_enter Tryz.func66, Tryz.ntmps66
    go_wp2_with (go_at_call 52; refine HC.out.mono ?_; intro e w2 hsaid; obtain ⟨v2, rfl, hv2, hb2⟩ := hsaid; obtain ⟨a2, c2, rfl⟩ := hv2.slice; have HV2 := Lib.hid hv2; clear hv2; obtain ⟨q2, g2⟩ := blk (HB.out _ hb2).2)
    refine bodyPost_ret (results_st_e rfl _ _ (w.heap.size + 1) (.slice a2 X.1.lines.length c2) (.int .i64 X.1.anc.line) (.int .i64 X.1.anc.col) (.int .i64 X.1.foc.line) (.int .i64 X.1.foc.col) (.int .i64 X.1.on) (.int .i64 X.1.off) (.int .i64 X.2) rfl rfl (by simp [heap_set, putIn, (HB.out _ hb2).2])) rfl ?_
    have hfin := H1.out.trans (hb2.mono hs1)
    have hv2 := HV2.out
    exact ⟨_, rfl, (SliceR.stable (rdLin_stable _) hv2 (by (repeat' (first | (with_reducible exact Keeps.refl _ _) | (with_reducible refine Keeps.set ?_ ?_ _) | (with_reducible refine Keeps.alloc ?_ _) | (with_reducible refine Keeps.drew ?_) | (first | fail) | (simp; omega)))) (fun b h _ => (by have h' := h; (try simp at h'); omega))), by (repeat' (first | (with_reducible exact Below.refl _ _) | (with_reducible assumption) | (with_reducible refine Below.alloc ?_ ?_ _) | (with_reducible refine Below.drew ?_) | (with_reducible refine drewN_below ?_) | (with_reducible refine Below.setCell ?_ ?_ _) | go_size))⟩
  · have hX := HR.out.trans ((if_neg h0).trans ((if_neg h2).trans ((if_neg h3).trans (if_neg h4))))
    obtain ⟨X, hXX⟩ : ∃ X, keyS s (eraseK s) = X := ⟨_, rfl⟩
    have HC := Lib.hid HEr.out
    rw [hX, hXX]
    rw [hXX] at HC
    clear hX hXX HT HPa HBa HFo HEr HR
    have q0 : (n == 0) = false := (by simp; omega) ; have q1 : (n == 1) = false := (by simp; omega) ; have q2 : (n == 2) = false := (by simp; omega) ; have q3 : (n == 3) = false := (by simp; omega) ; have q4 : (n == 4) = false := (by simp; omega) ; clear h0 h2 h3 h4
    go_enter Tryz.func66, Tryz.ntmps66
    go_wp2_with (go_at_call 45; refine HC.out.mono ?_; intro e w2 hsaid; obtain ⟨v2, rfl, hv2, hb2⟩ := hsaid; obtain ⟨a2, c2, rfl⟩ := hv2.slice; have HV2 := Lib.hid hv2; clear hv2; obtain ⟨q2, g2⟩ := blk (HB.out _ hb2).2)
    refine bodyPost_ret (results_st_e rfl _ _ (w.heap.size + 1) (.slice a2 X.1.lines.length c2) (.int .i64 X.1.anc.line) (.int .i64 X.1.anc.col) (.int .i64 X.1.foc.line) (.int .i64 X.1.foc.col) (.int .i64 X.1.on) (.int .i64 X.1.off) (.int .i64 X.2) rfl rfl (by simp [heap_set, putIn, (HB.out _ hb2).2])) rfl ?_
    have hfin := H1.out.trans (hb2.mono hs1)
    have hv2 := HV2.out
    exact ⟨_, rfl, (SliceR.stable (rdLin_stable _) hv2 (by (repeat' (first | (with_reducible exact Keeps.refl _ _) | (with_reducible refine Keeps.set ?_ ?_ _) | (with_reducible refine Keeps.alloc ?_ _) | (with_reducible refine Keeps.drew ?_) | (first | fail) | (simp; omega)))) (fun b h _ => (by have h' := h; (try simp at h'); omega))), by (repeat' (first | (with_reducible exact Below.refl _ _) | (with_reducible assumption) | (with_reducible refine Below.alloc ?_ ?_ _) | (with_reducible refine Below.drew ?_) | (with_reducible refine drewN_below ?_) | (with_reducible refine Below.setCell ?_ ?_ _) | go_size))⟩
end Go.Proofs.YtpndnbjpnajaaaaGreatDoor
namespace Go.Proofs.Qw
open Go.RowKit Go.Proofs.YtpndnbjpnajaaaaGreatDoor
def textB (l : List Cel) : ByteArray := runesBytes (l.map (·.r))
theorem foldl_text (ns : List Int) : ∀ s : ByteArray, ns.foldl (fun r n => r ++ Utf8.encode n) s = s ++ ns.foldl (fun r n => r ++ Utf8.encode n) ByteArray.empty := by
  induction ns with
  | nil => intro s; simp
  | cons n ns ih =>
    intro s
    rw [List.foldl_cons, List.foldl_cons, ih, ih (ByteArray.empty ++ Utf8.encode n), ByteArray.empty_append, ByteArray.append_assoc]
theorem runesBytes_append (a b : List Int) : runesBytes (a ++ b) = runesBytes a ++ runesBytes b := by
  unfold runesBytes
  rw [List.foldl_append, foldl_text]
theorem textB_append (a b : List Cel) : textB (a ++ b) = textB a ++ textB b := by
  unfold textB
  rw [List.map_append, runesBytes_append]
theorem textB_of (t : ByteArray) (b : Int) (h : List UInt8) : textB (cellsOf (cleanB t) b h) = runesBytes (cleanB t) := by
  unfold textB cellsOf
  rw [List.map_map]
  congr 1
  exact List.map_id' _
theorem textB_size (l : List Cel) : (textB l).size ≤ 4 * l.length := by
  unfold textB
  have := runesBytes_size_le (l.map (·.r))
  rwa [List.length_map] at this
end Go.Proofs.Qw
namespace Go.Proofs.YtpndnbjpnajaaaaGreatDoor
open Go.RowKit
open Go.Proofs.Qw
attribute [local go_sem] Oper.semAt_some
set_option maxHeartbeats 1000000 in
theorem charsText_any (v : Value) (l : List Int) (w : World) (S : Nat → Prop) (h : RunesR false w S v l) :
    Calls Tryz.prog 60 #[v] w fun e w' => e = .returned (.string (runesBytes l)) ∧ Below w.heap.size w w' := by
  have hcv := string_runes h
  obtain ⟨a, c, rfl⟩ := h.slice
  clear h
  go_enter Tryz.func60, Tryz.ntmps60
  go_wp2_with fail
  go_ret
  exact ⟨rfl, Below.refl _ _⟩
set_option maxRecDepth 100000 in
set_option maxHeartbeats 4000000 in
theorem text_any (v : Value) (d : Doc) (w : World) (S : Nat → Prop) (h : LinsR w S v d) (hs : sizeD d ≤ 100000) :
    Calls Tryz.prog 59 #[v] w fun e w' => e = .returned (.string (textB (flat d))) ∧ Below w.heap.size w w' := by
  obtain ⟨a, c, rfl, hc, hm, hx⟩ := lins_shape h
  have HX := Lib.hid hx
  have HSz := Lib.hid hs
  unfold maxLen at hm
  clear h hx hs
  go_enter Tryz.func59, Tryz.ntmps59
  go_wp2_with fail
  go_loopw [3, 4, 5] (fun t i _ wr => ∃ k : Nat, k ≤ d.length ∧ i = .int .i64 k ∧ t = .string (textB (flat (d.take k))) ∧ Hid (Below w.heap.size w wr)) (fun _ i _ _ => d.length - (intOf i).toNat)
  case atStart => exact ⟨0, Nat.zero_le _, rfl, by simp [textB, flat, runesBytes]; rfl, Lib.hid (Below.refl _ _)⟩
  case round =>
    obtain ⟨k, hk, rfl, rfl, HBl⟩ := hrel
    have k0 : (0 : Int) ≤ (k : Int) := Int.natCast_nonneg _
    by_cases hlt : k < d.length
    · obtain ⟨l, hl, _⟩ := getOf d k hlt
      obtain ⟨b, o, la, lc, ca, cc, rfl, hAt⟩ := HX.out k l hl
      have HAT : Hid (∀ W, Below w.heap.size w W → LinAt W S b (o + k * 4) l la lc ca cc) := Lib.hid fun W hW => hAt.below hW
      have hcl := hAt.cellsR.len
      unfold maxLen at hcl
      have HN : Hid (textB (flat (d.take (k + 1))) = textB (flat (d.take k) ++ l.cells)) := Lib.hid (by rw [List.take_add_one, hl]; simp [flat])
      have HLen : Hid (∀ q, q ≤ l.cells.length → (flat (d.take k) ++ l.cells.take q).length ≤ 100000) := Lib.hid fun q hq => by
        have h1 := HSz.out
        have h2 := flatc_len (d.take (k + 1))
        have h3 : (flat (d.take (k + 1))).length ≤ sizeD d := by
          have e : flat d = flat (d.take (k + 1)) ++ flat (d.drop (k + 1)) := by unfold flat; rw [← List.flatMap_append, List.take_append_drop]
          rw [← flatc_len d, e, List.length_append]
          omega
        rw [List.take_add_one, hl] at h3
        simp [flat] at h3
        simp [flat, List.length_take]
        omega
      have i1 : (k : Int) < (d.length : Int) := by omega
      obtain ⟨_, _, _, _, c3, _, _⟩ := HAT.out _ HBl.out
      clear hl hAt
      go_wp2_with fail
      go_loopw [3, 5] (fun t j wi => ∃ q : Nat, q ≤ l.cells.length ∧ j = .int .i64 q ∧ t = .string (textB (flat (d.take k) ++ l.cells.take q)) ∧ Hid (Below w.heap.size w wi)) (fun _ j _ => l.cells.length - (intOf j).toNat)
      case atStart => exact ⟨0, Nat.zero_le _, rfl, by simp, HBl⟩
      case round =>
        clear c3 HBl
        obtain ⟨q, hq, rfl, rfl, HBl⟩ := hrel
        obtain ⟨_, _, _, _, c3, _, _⟩ := HAT.out _ HBl.out
        have q0 : (0 : Int) ≤ (q : Int) := Int.natCast_nonneg _
        by_cases hlt2 : q < l.cells.length
        · obtain ⟨ce, hce, _⟩ := getOf l.cells q hlt2
          obtain ⟨_, _, e', _, _, hx9⟩ := cels_shape (HAT.out _ HBl.out).cellsR
          cases e'
          obtain ⟨b9, o9, rfl, hz9, u0, _, _⟩ := hx9 q ce hce
          have i3 : (q : Int) < (l.cells.length : Int) := by omega
          have hcv : (convert 59 9 (.slice (some ⟨wr.heap.size, 0, none⟩) 1 1)).run Tryz.prog (wr.alloc (.cells #[.int .i32 ce.r] 21)) = .ok (.string (runesBytes [ce.r])) (wr.alloc (.cells #[.int .i32 ce.r] 21)) :=
            string_runes (own := false) (S := fun _ => True) (slice_blk (enc := encRune) (fun _ => rfl) [ce.r] (heap_new _ _ rfl) trivial (by show 1 ≤ maxLen; decide))
          have HT : Hid (textB (flat (d.take k) ++ l.cells.take q) ++ runesBytes [ce.r] = textB (flat (d.take k) ++ l.cells.take (q + 1))) := Lib.hid (by
            rw [List.take_add_one, hce]
            simp only [Option.toList_some]
            rw [← List.append_assoc, textB_append _ [ce]]
            rfl)
          have hsum : (textB (flat (d.take k) ++ l.cells.take q)).size + (runesBytes [ce.r]).size ≤ 9223372036854775807 := by
            have h1 := textB_size (flat (d.take k) ++ l.cells.take q)
            have h2 := runesBytes_size_le [ce.r]
            have h3 := HLen.out q hq
            simp only [List.length_cons, List.length_nil] at h2
            omega
          have hadd := run_string_add_sum (P := Tryz.prog) (wr.alloc (.cells #[.int .i32 ce.r] 21)) (textB (flat (d.take k) ++ l.cells.take q)) (runesBytes [ce.r]) hsum
          have hif : ¬ ((9223372036854775807 : Int) < ((textB (flat (d.take k) ++ l.cells.take q)).size : Int) + ((runesBytes [ce.r]).size : Int)) := by omega
          have hb9 := below1 HBl.out (.cells #[.int .i32 ce.r] 21)
          have HB9 := Lib.hid hb9
          clear hce hx9 hb9
          go_wp2_with fail
          rw [HT.out]
          go_roundw
          case rel => exact ⟨q + 1, hlt2, by go_num, rfl, HB9⟩
          case measure => simp [intOf]; omega
        · obtain rfl : q = l.cells.length := by omega
          go_wp2_with fail
          go_roundw
          case rel => exact ⟨k + 1, hlt, by go_num, by rw [HN.out, List.take_length], HBl⟩
          case measure => simp [intOf]; omega
    · obtain rfl : k = d.length := by omega
      rw [List.take_length]
      go_wp2_with fail
      go_ret
      exact ⟨rfl, HBl.out⟩
end Go.Proofs.YtpndnbjpnajaaaaGreatDoor
namespace Go.Proofs.Qw
open Go.ChangeShapes Go.WideShapes Go.ChangeAt Go.RowKit
open Go.Proofs.YtpndnbjpnajaaaaGreatDoor
section
variable {H : Type} {enc : TypeId × Value → H} {w : World} {base : Nat} {held : Bool}
theorem bulk_one (d : DataW H) : 1 ≤ Rows.uptoBulk d := by
  cases d with
  | lit l => cases l <;> simp [Rows.uptoBulk]
  | nil => simp [Rows.uptoBulk]
  | ptr d => simp [Rows.uptoBulk]
  | slice elems spare => simp [Rows.uptoBulk]
  | agg parts => simp [Rows.uptoBulk]
  | iface t d => simp [Rows.uptoBulk]
  | map entries => simp [Rows.uptoBulk]
  | held h => simp [Rows.uptoBulk]
theorem bulk_mem {d : DataW H} {l : List (DataW H)} (h : d ∈ l) : Rows.uptoBulk d ≤ Rows.uptoBulkAll l := by
  induction l with
  | nil => cases h
  | cons x r ih =>
    simp only [Rows.uptoBulkAll]
    rcases List.mem_cons.1 h with rfl | h
    · omega
    · have := ih h; omega
theorem bulk_len (l : List (DataW H)) : l.length ≤ Rows.uptoBulkAll l := by
  induction l with
  | nil => simp [Rows.uptoBulkAll]
  | cons x r ih => have := bulk_one x; simp only [Rows.uptoBulkAll, List.length_cons]; omega
def LinU (d : DataW H) (l : Lin) : Prop := l.cells.length ≤ Rows.uptoBulk d ∧ ∀ c ∈ l.cells, c.href.length ≤ Rows.uptoBulk d
set_option maxRecDepth 100000 in
theorem open_linU {n : Nat} {cs : List Value} {y : DataW H × List MemPlace} (h : DataW.trod enc Tryz.prog w base (fun _ => true) held n 42 cs = some y) : ∃ l : Lin, rdLin false w (fun _ => True) cs l ∧ LinU y.1 l := by
  obtain ⟨xs, m, _, rfl, hl, hxs, hf⟩ := DataW.trod_struct Tryz.underlying42 h
  have h0 := hf 0 _ rfl
  have h1 := hf 1 _ rfl
  have h2 := hf 2 _ rfl
  have h3 := hf 3 _ rfl
  rw [show Tryz.prog.cellsOf 42 = 4 by kernel_rfl] at hl
  match cs, hl with
  | [a, b, c, d], _ =>
    match xs, hxs with
    | [x0, x1, x2, x3], _ =>
      obtain ⟨q, e0, _, _⟩ := DataW.trod_int Tryz.underlying3 h0
      obtain ⟨k, e2, _, _⟩ := DataW.trod_int Tryz.underlying3 h2
      obtain ⟨lv, ls, e1, hls, _⟩ := open_row (t0 := 3) (k := 1) (R := rdOf encInt) (fun _ _ => True) Tryz.underlying39 (by kernel_rfl) Nat.one_pos h1 (fun n cs y h => by
        obtain ⟨z, rfl, _, _⟩ := DataW.trod_int Tryz.underlying3 h
        exact ⟨z, rfl, trivial⟩)
      obtain ⟨cv, cc, e3, hcs, hcw⟩ := open_row (t0 := 44) (k := 3) (R := rdOf encCel) CelD Tryz.underlying40 (by kernel_rfl) (by decide) h3 (fun n cs y h => open_cel h)
      have e0 : [a] = [Value.int .i64 q] := e0
      have e1 : [b] = [lv] := e1
      have e2 : [c] = [Value.int .i64 k] := e2
      have e3 : [d] = [cv] := e3
      cases e0
      cases e1
      cases e2
      cases e3
      have hb : Rows.uptoBulk x3.1 ≤ Rows.uptoBulk (DataW.agg [x0.1, x1.1, x2.1, x3.1]) := by
        have := bulk_mem (show x3.1 ∈ [x0.1, x1.1, x2.1, x3.1] by simp)
        simp only [Rows.uptoBulk]
        omega
      refine ⟨⟨q, ls, k, cc⟩, ⟨_, _, rfl, hls, hcs⟩, ?_, ?_⟩
      · show cc.length ≤ _
        refine Nat.le_trans ?_ hb
        rcases hcw with ⟨_, rfl⟩ | ⟨el, spr, hd, hl, _⟩
        · simp
        · rw [hd, ← hl]
          have := bulk_len el
          simp only [Rows.uptoBulk]
          omega
      · intro c hc
        have hc : c ∈ cc := hc
        refine Nat.le_trans ?_ hb
        rcases hcw with ⟨_, rfl⟩ | ⟨el, spr, hd, hl, hel⟩
        · cases hc
        · rw [hd]
          obtain ⟨i, hi⟩ := List.getElem?_of_mem hc
          obtain ⟨dd, g1, g2⟩ := hel i c hi
          have h5 := bulk_mem (List.mem_of_getElem? g1)
          have h6 : c.href.length ≤ Rows.uptoBulk dd := by
            rw [show dd = _ from g2]
            simp only [Rows.uptoBulk, Rows.uptoBulkAll]
            omega
          simp only [Rows.uptoBulk]
          omega
theorem bulk_rows : ∀ (x : Doc) (el : List (DataW H)), (∀ (i : Nat) (l : Lin), x[i]? = some l → ∃ d, el[i]? = some d ∧ LinU d l) → sizeD x ≤ Rows.uptoBulkAll el
  | [], _, _ => Nat.zero_le _
  | l :: r, el, h => by
    obtain ⟨d, h1, h2⟩ := h 0 l rfl
    cases el with
    | nil => cases h1
    | cons e el =>
      cases h1
      have := bulk_rows r el (fun i l' hl => h (i + 1) l' hl)
      have e : sizeD (l :: r) = l.cells.length + sizeD r := by simp [sizeD]
      rw [e]
      simp only [Rows.uptoBulkAll]
      have := h2.1
      omega
set_option maxRecDepth 100000 in
theorem open_docU {v : Value} {d : DataW H} {ps : List MemPlace} (hv : ∃ a n c, v = .slice a n c) (h : DataW.Trod enc Tryz.prog w base (fun _ => true) held 22 v d ps) :
    ∃ x : Doc, LinsR w (fun _ => True) v x ∧ sizeD x ≤ Rows.uptoBulk d ∧ ∀ l ∈ x, ∀ c ∈ l.cells, c.href.length ≤ Rows.uptoBulk d := by
  obtain ⟨fuel, hf⟩ := h
  obtain ⟨v', xs, e, hs, hx⟩ := open_row (t0 := 42) (k := 4) (R := rdLin false) LinU Tryz.underlying22 (by kernel_rfl) (by decide) hf (fun n cs y h => open_linU h)
  refine ⟨xs, ?_, ?_, ?_⟩
  · have : v = v' := by
      obtain ⟨a, n, c, rfl⟩ := hv
      have e : [Value.slice a n c] = [v'] := e
      cases e
      rfl
    exact this ▸ hs
  · rcases hx with ⟨_, rfl⟩ | ⟨el, spr, hd, _, hel⟩
    · exact Nat.zero_le _
    · have hd : d = .slice el spr := hd
      have := bulk_rows xs el hel
      rw [hd]
      simp only [Rows.uptoBulk]
      omega
  · intro l hl c hc
    obtain ⟨i, hi⟩ := List.getElem?_of_mem hl
    rcases hx with ⟨_, rfl⟩ | ⟨el, spr, hd, _, hel⟩
    · cases hl
    · have hd : d = .slice el spr := hd
      obtain ⟨dd, g1, g2⟩ := hel i l hi
      have h5 := bulk_mem (List.mem_of_getElem? g1)
      have := g2.2 c hc
      rw [hd]
      simp only [Rows.uptoBulk]
      omega
end
end Go.Proofs.Qw
namespace Go.Proofs.Qw
open Go.RowKit Go.Proofs.YtpndnbjpnajaaaaGreatDoor
def SmallW (d : Doc) : Prop := sizeD d ≤ 100000 ∧ d.length ≤ 100000 ∧ ∀ l ∈ d, ∀ c ∈ l.cells, c.href.length ≤ 2000000
end Go.Proofs.Qw
namespace Go.Proofs.YtpndnbjpnajaaaaGreatDoor
open Go.RowKit
open Go.Proofs.Qw
set_option maxRecDepth 100000 in
set_option maxHeartbeats 2000000 in
theorem refValue_wide (s : ByteArray) (w : World) (hs : s.size ≤ 2000000) :
    Calls Tryz.prog 178 #[.string s] w fun e w' => e = .returned (.bool (valueB s)) ∧ Below w.heap.size w w' := by
  have HC := Lib.hid (refRunes_any s w (by omega))
  have HV := Lib.hid (valueB_eq s)
  have hln : (runesB s).length ≤ 2000000 := by
    have hz := size_runesFrom s s.size 0 #[]
    rw [runesFrom_eq] at hz
    simp at hz
    unfold runesB
    omega
  have hcs : (200 < s.size ∧ valueB s = false) ∨ (s.size ≤ 200 ∧ ((runesBytes (runesB s)).toList == s.toList) = false ∧ valueB s = false) ∨ (s.size ≤ 200 ∧ ((runesBytes (runesB s)).toList == s.toList) = true ∧ valueB s = (runesB s).all mayR) := by
    rw [HV.out]
    by_cases h1 : s.size ≤ 200
    · cases h2 : ((runesBytes (runesB s)).toList == s.toList) <;> simp [h1]
    · simp [h1]; omega
  obtain ⟨t, ht⟩ : ∃ t, runesBytes (runesB s) = t := ⟨_, rfl⟩
  rw [ht] at hcs
  have HT := Lib.hid ht
  clear ht
  go_enter Tryz.func178, Tryz.ntmps178
  rcases hcs with ⟨h1, hv⟩ | ⟨h1, h2, hv⟩ | ⟨h1, h2, hv⟩
  · have HR := Lib.hid hv
    clear hv
    go_wp2_with (go_at_call 228; refine HC.out.mono ?_; rintro e w2 ⟨v2, rfl, hv2, hb2⟩; have hcv := string_runes hv2; rw [HT.out] at hcv; obtain ⟨a2, c2, rfl, hc2, hm2, hx2⟩ := runes_shape hv2; have HX := Lib.hid hx2; clear hx2 hv2; unfold maxLen at hm2)
    go_ret
    rw [HR.out]
    exact ⟨rfl, hb2⟩
  · have HR := Lib.hid hv
    clear hv
    go_wp2_with (go_at_call 228; refine HC.out.mono ?_; rintro e w2 ⟨v2, rfl, hv2, hb2⟩; have hcv := string_runes hv2; rw [HT.out] at hcv; obtain ⟨a2, c2, rfl, hc2, hm2, hx2⟩ := runes_shape hv2; have HX := Lib.hid hx2; clear hx2 hv2; unfold maxLen at hm2)
    go_ret
    rw [HR.out]
    exact ⟨rfl, hb2⟩
  · have HR := Lib.hid hv
    clear hv
    go_wp2_with (go_at_call 228; refine HC.out.mono ?_; rintro e w2 ⟨v2, rfl, hv2, hb2⟩; have hcv := string_runes hv2; rw [HT.out] at hcv; obtain ⟨a2, c2, rfl, hc2, hm2, hx2⟩ := runes_shape hv2; have HX := Lib.hid hx2; clear hx2 hv2; unfold maxLen at hm2)
    go_loopw [4] (fun i wr => ∃ k : Nat, k ≤ (runesB s).length ∧ i = .int .i64 k ∧ Hid (((runesB s).take k).all mayR = true) ∧ wr = w2) (fun i _ => (runesB s).length - (intOf i).toNat)
    case atStart => exact ⟨0, Nat.zero_le _, rfl, Lib.hid rfl, rfl⟩
    case round =>
      obtain ⟨k, hk, rfl, HA, rfl⟩ := hrel
      by_cases hlt : k < (runesB s).length
      · obtain ⟨x, hx, _⟩ := getOf (runesB s) k hlt
        obtain ⟨b, o, rfl, hz, c0⟩ := HX.out k x hx
        have HX2 := Lib.hid hx
        have HM : Hid (∀ W, Calls Tryz.prog 229 #[.int .i32 x] W fun e w' => e = .returned (.bool (mayR x)) ∧ w' = W) := Lib.hid fun W => refCharMay_any x W
        clear hx
        cases hm : mayR x
        · rw [hm] at HM
          have HF := Lib.hid (all_no HX2.out hm)
          clear hm
          go_wp2_with (go_at_call 229; refine (HM.out _).mono ?_; rintro e w3 ⟨rfl, rfl⟩)
          go_ret
          rw [HR.out, HF.out]
          exact ⟨rfl, hb2⟩
        · rw [hm] at HM
          have HF := Lib.hid (all_take HX2.out HA.out hm)
          clear hm
          go_wp2_with (go_at_call 229; refine (HM.out _).mono ?_; rintro e w3 ⟨rfl, rfl⟩)
          go_roundw
          case rel => exact ⟨k + 1, hlt, by go_num, HF, by first | rfl | trivial⟩
          case measure => simp [intOf]; omega
      · obtain rfl : k = (runesB s).length := by omega
        have HF : Hid ((runesB s).all mayR = true) := Lib.hid (by have := HA.out; rwa [List.take_length] at this)
        go_wp2_with fail
        go_ret
        rw [HR.out, HF.out]
        exact ⟨rfl, hb2⟩
set_option maxRecDepth 100000 in
set_option maxHeartbeats 4000000 in
theorem refTarget_wide (s : ByteArray) (w : World) (hs : s.size ≤ 2000000) :
    Calls Tryz.prog 105 #[.string s] w fun e w' => e = .returned (.bool (targetF s.data.toList)) ∧ Below w.heap.size w w' := by
  have HV := Lib.hid (refValue_wide s w hs)
  have HT : Hid (targetF s.data.toList = (valueB s && (decide (s.data.toList ≠ []) && (decide (s.data.toList.head? ≠ some 32) && (decide (s.data.toList.getLast? ≠ some 32) && !(decide ((s.data.toList.takeWhile (· != 58)).map lowB = javascript))))))) := Lib.hid (by
    unfold targetF valueF
    rw [js_eq, cut_fst])
  have hcs : (valueB s = false) ∨ (valueB s = true ∧ s.size = 0) ∨ (valueB s = true ∧ 0 < s.size) := by
    cases valueB s
    · exact .inl rfl
    · rcases Nat.eq_zero_or_pos s.size with h | h
      · exact .inr (.inl ⟨rfl, h⟩)
      · exact .inr (.inr ⟨rfl, h⟩)
  rcases hcs with hv | ⟨hv, hz⟩ | ⟨hv, hz⟩
  · have HF : Hid (targetF s.data.toList = false) := Lib.hid (by rw [HT.out, hv]; rfl)
    rw [hv] at HV
    clear hv HT
    go_enter Tryz.func105, Tryz.ntmps105
    go_wp2_with (go_at_call 178; refine HV.out.mono ?_; rintro e w1 ⟨rfl, hb1⟩)
    go_ret
    rw [HF.out]
    exact ⟨rfl, hb1⟩
  · have hnil : s.data.toList = [] := List.length_eq_zero_iff.1 (by rw [Array.length_toList]; exact hz)
    have HF : Hid (targetF s.data.toList = false) := Lib.hid (by rw [HT.out, hnil]; simp)
    have hne2 : s.toList.isEmpty = true := by rw [toList_eq, hnil]; rfl
    rw [hv] at HV
    clear hv HT hnil
    go_enter Tryz.func105, Tryz.ntmps105
    go_wp2_with (go_at_call 178; refine HV.out.mono ?_; rintro e w1 ⟨rfl, hb1⟩)
    go_ret
    rw [HF.out]
    exact ⟨rfl, hb1⟩
  · have hne : s.data.toList ≠ [] := by
      intro e
      have h2 : s.data.toList.length = s.size := Array.length_toList
      rw [e, List.length_nil] at h2
      omega
    have h0 := byte_ne (byte_head s hz)
    have h1 := byte_ne (byte_last s hz)
    have HN : Hid (targetF s.data.toList = (((s[0].toNat : Int) != 32) && (((s[s.size - 1].toNat : Int) != 32) && !(decide ((s.data.toList.takeWhile (· != 58)).map lowB = javascript))))) := Lib.hid (by
      rw [HT.out, h0, h1, decide_eq_true hne, Bool.true_and, hv, Bool.true_and])
    have hne2 : s.toList.isEmpty = false := by rw [toList_eq]; simpa using hne
    rw [hv] at HV
    clear h0 h1 HT hne hv
    have hcs : (((s[0].toNat : Int) == 32) = true) ∨ (((s[0].toNat : Int) == 32) = false ∧ ((s[s.size - 1].toNat : Int) == 32) = true) ∨ (((s[0].toNat : Int) == 32) = false ∧ ((s[s.size - 1].toNat : Int) == 32) = false) := by
      cases ((s[0].toNat : Int) == 32) <;> cases ((s[s.size - 1].toNat : Int) == 32) <;> simp
    rcases hcs with e1 | ⟨e1, e2⟩ | ⟨e1, e2⟩
    · have HF : Hid (targetF s.data.toList = false) := Lib.hid (by rw [HN.out, bne, e1]; rfl)
      clear HN
      go_enter Tryz.func105, Tryz.ntmps105
      go_wp2_with (go_at_call 178; refine HV.out.mono ?_; rintro e w1 ⟨rfl, hb1⟩)
      go_ret
      rw [HF.out]
      exact ⟨rfl, hb1⟩
    · have HF : Hid (targetF s.data.toList = false) := Lib.hid (by rw [HN.out, bne, bne, e1, e2]; rfl)
      clear HN
      go_enter Tryz.func105, Tryz.ntmps105
      go_wp2_with (go_at_call 178; refine HV.out.mono ?_; rintro e w1 ⟨rfl, hb1⟩)
      go_ret
      rw [HF.out]
      exact ⟨rfl, hb1⟩
    · have HF : Hid (targetF s.data.toList = !(decide ((s.data.toList.takeWhile (· != 58)).map lowB = javascript))) := Lib.hid (by rw [HN.out, bne, bne, e1, e2]; rfl)
      clear HN
      go_enter Tryz.func105, Tryz.ntmps105
      go_wp2_with (go_at_call 178; refine HV.out.mono ?_; rintro e w1 ⟨rfl, hb1⟩)
      obtain ⟨jb, hjb⟩ : ∃ jb : ByteArray, (⟨#[106, 97, 118, 97, 115, 99, 114, 105, 112, 116]⟩ : ByteArray) = jb := ⟨_, rfl⟩
      have hj1 : jb.data.toList = javascript := by rw [← hjb]; rfl
      have hj2 : jb.size = 10 := by rw [← hjb]; rfl
      rw [hjb]
      have HJ := Lib.hid hj1
      clear hjb hj1
      have hsl : s.data.toList.length = s.size := Array.length_toList
      have HSL := Lib.hid hsl
      clear hsl
      go_loopw [4] (fun i wr => ∃ k : Nat, k ≤ s.size ∧ i = .int .i64 k ∧ Hid (∀ j, j < k → s.data.toList[j]? ≠ some 58) ∧ wr = w1) (fun i _ => s.size - (intOf i).toNat)
      case atStart => exact ⟨0, Nat.zero_le _, rfl, Lib.hid (fun j hj => absurd hj (Nat.not_lt_zero _)), rfl⟩
      case round =>
        obtain ⟨k, hk, rfl, HA, rfl⟩ := hrel
        have hcs : (k < s.size ∧ Hid (s.data.toList[k]? ≠ some 58)) ∨ (k < s.size ∧ Hid (s.data.toList[k]? = some 58)) ∨ k = s.size := by
          by_cases h1 : k < s.size
          · by_cases h2 : s.data.toList[k]? = some 58
            · exact .inr (.inl ⟨h1, h2⟩)
            · exact .inl ⟨h1, h2⟩
          · exact .inr (.inr (by omega))
        rcases hcs with ⟨hlt, H2⟩ | ⟨hlt, H2⟩ | he
        · have hb : ((s[k].toNat : Int) != 58) = true := by
            have h3 : s.data.toList[k]? = some s[k] := by rw [Array.getElem?_toList, Array.getElem?_eq_getElem hlt]; rfl
            have h4 := H2.out
            rw [h3] at h4
            have h5 : s[k] ≠ 58 := fun e => h4 (by rw [e])
            have h6 : ¬ s[k].toNat = 58 := fun e => h5 (UInt8.toNat_inj.1 e)
            simp
            omega
          have HN : Hid (∀ j, j < k + 1 → s.data.toList[j]? ≠ some 58) := Lib.hid (fun j hj => by
            by_cases e : j = k
            · subst e; exact H2.out
            · exact HA.out j (by omega))
          go_wp2_with fail
          go_roundw
          case rel => exact ⟨k + 1, hlt, by go_num, HN, by first | rfl | trivial⟩
          case measure => simp [intOf]; omega
        all_goals
          have HE : Hid (s.data.toList.takeWhile (· != 58) = s.data.toList.take k) := Lib.hid (takeWhile_take HA.out (by rw [HSL.out]; exact hk) (by first | exact .inr H2.out | exact .inl (by rw [HSL.out]; exact he)))
          have hend : Hid (k < s.size → (decide ((k : Int) < (s.size : Int)) = true)) := Lib.hid (fun h => by simpa using h)
          have hstop : (∃ h : k < s.size, ((s[k].toNat : Int) != 58) = false) ∨ k = s.size := by
            first
              | exact .inr he
              | exact .inl ⟨hlt, by
                  have h3 : s.data.toList[k]? = some s[k] := by rw [Array.getElem?_toList, Array.getElem?_eq_getElem hlt]; rfl
                  have h4 := H2.out
                  rw [h3] at h4
                  have h5 : s[k] = 58 := by simpa using h4
                  rw [h5]; rfl⟩
          by_cases h10 : k = 10
          · subst h10
            have hq : ((10 : Int) != ((10 : Nat) : Int)) = false := by decide
            rcases hstop with ⟨hlt, hb⟩ | he
            all_goals
              (try (exfalso; omega))
            all_goals
              go_wp2_with fail
              go_loopw [5, 6] (fun i _ wi => ∃ q : Nat, q ≤ 10 ∧ i = .int .i64 q ∧ Hid ((s.data.toList.take q).map lowB = javascript.take q) ∧ wi = wr) (fun i _ _ => 10 - (intOf i).toNat)
              case atStart => exact ⟨0, Nat.zero_le _, rfl, Lib.hid rfl, rfl⟩
              case round =>
                obtain ⟨q, hq, rfl, HM, rfl⟩ := hrel
                by_cases hlt2 : q < 10
                · have hqs : q < s.size := by omega
                  have hqj : q < jb.size := by omega
                  have g1 : s.data.toList[q]? = some s[q] := by rw [Array.getElem?_toList, Array.getElem?_eq_getElem hqs]; rfl
                  have g2 : javascript[q]? = some jb[q] := by rw [← HJ.out, Array.getElem?_toList, Array.getElem?_eq_getElem hqj]; rfl
                  have hst : Hid (lowB s[q] = jb[q] → (s.data.toList.take (q + 1)).map lowB = javascript.take (q + 1)) := Lib.hid fun e => by
                    rw [take_some g1, take_some g2, List.map_append, HM.out, List.map_cons, List.map_nil, e]
                  have hno : Hid (lowB s[q] ≠ jb[q] → targetF s.data.toList = true) := Lib.hid fun e => by
                    rw [HF.out, HE.out]
                    have : ¬ ((s.data.toList.take 10).map lowB = javascript) := fun e2 => by
                      have := congrArg (fun l => l[q]?) e2
                      simp only [List.getElem?_map, List.getElem?_take, if_pos hlt2, g1, g2, Option.map_some, Option.some.injEq] at this
                      exact e this
                    rw [decide_eq_false this]; rfl
                  have hub : (s[q].toNat : Int) ≤ 255 := by have := s[q].toNat_lt; omega
                  have hcs : ((65 ≤ (s[q].toNat : Int) ∧ (s[q].toNat : Int) ≤ 90) ∧ (lowB s[q]).toNat = s[q].toNat + 32) ∨ (decide (65 ≤ (s[q].toNat : Int)) = false ∧ (lowB s[q]).toNat = s[q].toNat) ∨ (65 ≤ (s[q].toNat : Int) ∧ decide ((s[q].toNat : Int) ≤ 90) = false ∧ (lowB s[q]).toNat = s[q].toNat) := by
                    unfold lowB
                    by_cases h1 : 65 ≤ s[q].toNat
                    · by_cases h2 : s[q].toNat ≤ 90
                      · refine .inl ⟨⟨by omega, by omega⟩, ?_⟩
                        rw [if_pos ⟨h1, h2⟩]
                        simp [UInt8.toNat_add]
                        omega
                      · refine .inr (.inr ⟨by omega, by simp; omega, ?_⟩)
                        rw [if_neg (by omega)]
                    · refine .inr (.inl ⟨by simp; omega, ?_⟩)
                      rw [if_neg (by omega)]
                  have heq : Hid ((lowB s[q]).toNat = jb[q].toNat → lowB s[q] = jb[q]) := Lib.hid UInt8.toNat_inj.1
                  have hne3 : Hid ((lowB s[q]).toNat ≠ jb[q].toNat → lowB s[q] ≠ jb[q]) := Lib.hid fun e h => e (by rw [h])
                  clear g1 g2
                  rcases hcs with ⟨⟨u1, u2⟩, hl⟩ | ⟨u1, hl⟩ | ⟨u1, u2, hl⟩
                  · by_cases ht : s[q].toNat + 32 = jb[q].toNat
                    · have ht2 : ((s[q].toNat : Int) + 32 != (jb[q].toNat : Int)) = false := by simp; omega
                      have HS := Lib.hid (hst.out (heq.out (by omega)))
                      clear hl ht
                      go_wp2_with fail
                      go_roundw
                      case rel => exact ⟨q + 1, by omega, by go_num, HS, by first | rfl | trivial⟩
                      case measure => simp [intOf]; omega
                    · have ht2 : ((s[q].toNat : Int) + 32 != (jb[q].toNat : Int)) = true := by simp; omega
                      have HS := Lib.hid (hno.out (hne3.out (by omega)))
                      clear hl ht
                      go_wp2_with fail
                      go_ret
                      rw [HS.out]
                      exact ⟨rfl, hb1⟩
                  all_goals
                    by_cases ht : s[q].toNat = jb[q].toNat
                    · have ht2 : ((s[q].toNat : Int) != (jb[q].toNat : Int)) = false := by simp; omega
                      have HS := Lib.hid (hst.out (heq.out (by omega)))
                      clear hl ht
                      go_wp2_with fail
                      go_roundw
                      case rel => exact ⟨q + 1, by omega, by go_num, HS, by first | rfl | trivial⟩
                      case measure => simp [intOf]; omega
                    · have ht2 : ((s[q].toNat : Int) != (jb[q].toNat : Int)) = true := by simp; omega
                      have HS := Lib.hid (hno.out (hne3.out (by omega)))
                      clear hl ht
                      go_wp2_with fail
                      go_ret
                      rw [HS.out]
                      exact ⟨rfl, hb1⟩
                · obtain rfl : q = 10 := by omega
                  have HR : Hid (targetF s.data.toList = false) := Lib.hid (by
                    rw [HF.out, HE.out, HM.out]; rfl)
                  go_wp2_with fail
                  go_ret
                  rw [HR.out]
                  exact ⟨rfl, hb1⟩
          · have HR : Hid (targetF s.data.toList = true) := Lib.hid (by
              rw [HF.out, HE.out]
              have : ¬ ((s.data.toList.take k).map lowB = javascript) := fun e => by
                have := congrArg List.length e
                rw [List.length_map, List.length_take, HSL.out] at this
                simp [javascript] at this
                omega
              rw [decide_eq_false this]; rfl)
            have hq : ((k : Int) != (10 : Int)) = true := by simp; omega
            rcases hstop with ⟨hlt, hb⟩ | he
            all_goals first
              | (exfalso; omega)
              | (go_wp2_with fail
                 go_ret
                 rw [HR.out]
                 exact ⟨rfl, hb1⟩)
set_option maxHeartbeats 400000 in
theorem refLink_wide (s : ByteArray) (w : World) (hs : s.size ≤ 2000000) :
    Calls Tryz.prog 179 #[.string s] w fun e w' => e = .returned (.bool (linkF s.data.toList)) ∧ Below w.heap.size w w' := by
  have HC := Lib.hid (refTarget_wide s w hs)
  have HL : Hid (linkF s.data.toList = (s.toList.isEmpty || targetF s.data.toList)) := Lib.hid (by
    unfold linkF
    rw [toList_eq]
    cases s.data.toList <;> rfl)
  generalize targetF s.data.toList = r at *
  go_enter Tryz.func179, Tryz.ntmps179
  go_wp2_with (go_at_call 105; refine HC.out.mono ?_; rintro e w1 ⟨rfl, hb1⟩)
  · go_ret
    rw [HL.out, show s.toList = [] by assumption]
    exact ⟨rfl, Below.refl _ _⟩
  · go_ret
    rw [HL.out]
    exact ⟨rfl, hb1⟩
set_option maxRecDepth 100000 in
set_option maxHeartbeats 2000000 in
theorem refCellsMay_wide (v : Value) (d : List Cel) (w : World) (S : Nat → Prop) (h : CelsR false w S v d) (hs : ∀ c ∈ d, c.href.length ≤ 2000000) :
    Calls Tryz.prog 197 #[v] w fun e w' => e = .returned (.bool (mayCs d)) ∧ Below w.heap.size w w' := by
  obtain ⟨a, c, rfl, hc, hm, hx⟩ := cels_shape h
  have HX := Lib.hid hx
  have HS := Lib.hid hs
  clear hx h hs
  unfold maxLen at hm
  go_enter Tryz.func197, Tryz.ntmps197
  go_wp2_with fail
  go_loopw [3] (fun i wr => ∃ k : Nat, k ≤ d.length ∧ i = .int .i64 k ∧ Hid ((d.take k).all mayC = true) ∧ Below w.heap.size w wr) (fun i _ => d.length - (intOf i).toNat)
  case atStart => exact ⟨0, Nat.zero_le _, rfl, Lib.hid rfl, Below.refl _ _⟩
  case round =>
    obtain ⟨k, hk, rfl, HA, hb⟩ := hrel
    by_cases hlt : k < d.length
    · obtain ⟨x, hx, _⟩ := getOf d k hlt
      obtain ⟨b, o, rfl, hz, c0, c1, c2⟩ := HX.out k x hx
      have c0 := (hb.cell (p := ⟨b, o + k * 3, none⟩) hz).trans c0
      have c1 := (hb.cell (p := ⟨b, o + k * 3 + 1, none⟩) hz).trans c1
      have c2 := (hb.cell (p := ⟨b, o + k * 3 + 2, none⟩) hz).trans c2
      have HX2 := Lib.hid hx
      have hbs := hb.size
      obtain ⟨W1, hW1⟩ : ∃ W1, wr.alloc (.cells #[.int .i32 x.r, .int .i64 x.bits, .string ⟨x.href.toArray⟩] 44) = W1 := ⟨_, rfl⟩
      have hB : Below w.heap.size w W1 := hW1 ▸ hb.alloc hbs _
      have hA1 : W1.heap[wr.heap.size]? = some (.cells #[.int .i32 x.r, .int .i64 x.bits, .string ⟨x.href.toArray⟩] 44) := hW1 ▸ heap_new _ _ rfl
      obtain ⟨p1, f1⟩ := blk hA1
      have HM : Hid (∀ W, Calls Tryz.prog 229 #[.int .i32 x.r] W fun e w' => e = .returned (.bool (mayR x.r)) ∧ w' = W) := Lib.hid fun W => refCharMay_any x.r W
      have HC : Hid (∀ W, Calls Tryz.prog 179 #[.string ⟨x.href.toArray⟩] W fun e w' => e = .returned (.bool (linkF x.href)) ∧ Below W.heap.size W w') := Lib.hid fun W => refLink_wide ⟨x.href.toArray⟩ W (by show x.href.toArray.size ≤ _; simpa using HS.out x (List.mem_of_getElem? hx))
      have HE := Lib.hid (mayC_eq x)
      have HT : Hid ((!mayC x) = false → (d.take (k + 1)).all mayC = true) := Lib.hid fun h => all_take HX2.out HA.out (by simpa using h)
      have HF : Hid ((!mayC x) = true → mayCs d = false) := Lib.hid fun h => all_no HX2.out (by simpa using h)
      clear hx hA1
      generalize (!mayC x) = r at *
      generalize mayR x.r = m at *
      generalize linkF x.href = lk at *
      go_wp2_with (first | (go_at_call 229; refine (HM.out _).mono ?_; rintro e w1 ⟨rfl, rfl⟩; cases m) | (go_at_call 179; refine (HC.out _).mono ?_; rintro e w1 ⟨rfl, hb1⟩; have hB2 := hB.trans (Below.mono hb1 hB.size); cases lk))
      all_goals first
        | (go_roundw
           case rel =>
             refine ⟨k + 1, hlt, by go_num, Lib.hid (HT.out ?_), by first | exact hB2 | exact hB⟩
             rw [HE.out]
             clear HE HM HC HT HF
             simp (config := { failIfUnchanged := false }) [*]
           case measure => simp [intOf]; omega)
        | (go_ret
           refine ⟨?_, by first | exact hB2 | exact hB⟩
           rw [HF.out (by rw [HE.out]; clear HE HM HC HT HF; simp (config := { failIfUnchanged := false }) [*])]
           rfl)
    · obtain rfl : k = d.length := by omega
      have HF : Hid (mayCs d = true) := Lib.hid (by have := HA.out; rwa [List.take_length] at this)
      have HB := Lib.hid hb
      clear hb
      go_wp2_with fail
      go_ret
      rw [HF.out]
      exact ⟨rfl, HB.out⟩
set_option maxRecDepth 100000 in
set_option maxHeartbeats 4000000 in
theorem refLineMay_wide (l : Lin) (a b : Value) (w : World) (S : Nat → Prop) (hL : IntsR false w S a l.lists) (hC : CelsR false w S b l.cells) (hs : ∀ c ∈ l.cells, c.href.length ≤ 2000000) :
    Calls Tryz.prog 139 #[linV l a b] w fun e w' => e = .returned (.bool (mayL l)) ∧ Below w.heap.size w w' := by
  have HC : Hid (∀ W, Below w.heap.size w W → Calls Tryz.prog 197 #[b] W fun e w' => e = .returned (.bool (mayCs l.cells)) ∧ Below W.heap.size W w') := Lib.hid fun W hW => refCellsMay_wide b l.cells W S (hC.below (rdOf_stable _) hW) hs
  obtain ⟨la, lc, rfl, hlc, hlm, hx⟩ := ints_shape hL
  have HX := Lib.hid hx
  obtain ⟨ca, cc, rfl⟩ := hC.slice
  obtain ⟨W1, hW1⟩ : ∃ W1, w.alloc (.cells #[.int .i64 l.quote, .slice la l.lists.length lc, .int .i64 l.kind, .slice ca l.cells.length cc] 42) = W1 := ⟨_, rfl⟩
  have hB : Below w.heap.size w W1 := hW1 ▸ (Below.refl _ _).alloc (Nat.le_refl _) _
  have hA1 : W1.heap[w.heap.size]? = some (.cells #[.int .i64 l.quote, .slice la l.lists.length lc, .int .i64 l.kind, .slice ca l.cells.length cc] 42) := hW1 ▸ heap_new _ _ rfl
  obtain ⟨p1, f1⟩ := blk hA1
  unfold maxLen at hlm
  clear hx hL hC hs hA1
  by_cases hh : 0 ≤ l.quote ∧ l.quote ≤ 6 ∧ l.lists.length ≤ 6 ∧ 0 ≤ l.kind ∧ l.kind ≤ 3
  · have HG := Lib.hid (mayL_good hh)
    obtain ⟨h1, h2, h3, h4, h5⟩ := hh
    go_enter Tryz.func139, Tryz.ntmps139
    go_wp2_with fail
    go_loopw [3] (fun i wr => ∃ k : Nat, k ≤ l.lists.length ∧ i = .int .i64 k ∧ Hid ((l.lists.take k).all (okK l.kind) = true) ∧ wr = W1) (fun i _ => l.lists.length - (intOf i).toNat)
    case atStart => exact ⟨0, Nat.zero_le _, rfl, Lib.hid rfl, rfl⟩
    case round =>
      obtain ⟨k, hk, rfl, HA, rfl⟩ := hrel
      by_cases hlt : k < l.lists.length
      · obtain ⟨x, hx, _⟩ := getOf l.lists k hlt
        obtain ⟨b, o, rfl, hz, c0⟩ := HX.out k x hx
        have c0 := (hB.cell (p := ⟨b, o + k, none⟩) hz).trans c0
        have HX2 := Lib.hid hx
        clear hx
        have hcs : ((x != 0) = true ∧ (x != 1) = true ∧ okK l.kind x = false) ∨ ((x != 0) = false ∧ (l.kind != 0) = true ∧ okK l.kind x = false) ∨ ((x != 0) = true ∧ (x != 1) = false ∧ (l.kind != 0) = true ∧ okK l.kind x = false) ∨ ((x != 0) = false ∧ (l.kind != 0) = false ∧ okK l.kind x = true) ∨ ((x != 0) = true ∧ (x != 1) = false ∧ (l.kind != 0) = false ∧ okK l.kind x = true) := by
          unfold okK
          by_cases e0 : x = 0 <;> by_cases e1 : x = 1 <;> by_cases e2 : l.kind = 0 <;> simp [e0, e1, e2] <;> omega
        rcases hcs with ⟨t1, t2, t3⟩ | ⟨t1, t2, t3⟩ | ⟨t1, t2, t4, t3⟩ | ⟨t1, t2, t3⟩ | ⟨t1, t2, t4, t3⟩
        · have HF : Hid (mayL l = false) := Lib.hid (by rw [HG.out, all_no HX2.out t3]; rfl)
          clear t3
          go_wp2_with fail
          go_ret
          rw [HF.out]
          exact ⟨rfl, hB⟩
        · have HF : Hid (mayL l = false) := Lib.hid (by rw [HG.out, all_no HX2.out t3]; rfl)
          clear t3
          go_wp2_with fail
          go_ret
          rw [HF.out]
          exact ⟨rfl, hB⟩
        · have HF : Hid (mayL l = false) := Lib.hid (by rw [HG.out, all_no HX2.out t3]; rfl)
          clear t3
          go_wp2_with fail
          go_ret
          rw [HF.out]
          exact ⟨rfl, hB⟩
        all_goals
          have HT := Lib.hid (all_take HX2.out HA.out t3)
          clear t3
          go_wp2_with fail
          go_roundw
          case rel => exact ⟨k + 1, hlt, by go_num, HT, by first | rfl | trivial⟩
          case measure => simp [intOf]; omega
      · obtain rfl : k = l.lists.length := by omega
        have HF : Hid (mayL l = mayCs l.cells) := Lib.hid (by have := HA.out; rw [List.take_length] at this; rw [HG.out, this]; rfl)
        go_wp2_with (go_at_call 197; refine (HC.out _ hB).mono ?_; rintro e w2 ⟨rfl, hb2⟩)
        go_ret
        rw [HF.out]
        exact ⟨rfl, hB.trans (hb2.mono hB.size)⟩
  · have HF := Lib.hid (mayL_bad hh)
    go_enter Tryz.func139, Tryz.ntmps139
    have hcs : (l.quote < 0) ∨ (0 ≤ l.quote ∧ 6 < l.quote) ∨ (0 ≤ l.quote ∧ l.quote ≤ 6 ∧ 6 < (l.lists.length : Int)) ∨ (0 ≤ l.quote ∧ l.quote ≤ 6 ∧ (l.lists.length : Int) ≤ 6 ∧ l.kind < 0) ∨ (0 ≤ l.quote ∧ l.quote ≤ 6 ∧ (l.lists.length : Int) ≤ 6 ∧ 0 ≤ l.kind ∧ 3 < l.kind) := by omega
    clear hh
    rcases hcs with t1 | ⟨t1, t2⟩ | ⟨t1, t2, t3⟩ | ⟨t1, t2, t3, t4⟩ | ⟨t1, t2, t3, t4, t5⟩
    all_goals
      go_wp2_with fail
      go_ret
      rw [HF.out]
      exact ⟨rfl, hB⟩
set_option maxHeartbeats 1000000 in
theorem refSize_wide (v : Value) (d : Doc) (w : World) (S : Nat → Prop) (h : LinsR w S v d) (hs : sizeD d ≤ 10000000) :
    Calls Tryz.prog 56 #[v] w fun e w' => e = .returned (.int .i64 (sizeD d)) ∧ Below w.heap.size w w' := by
  obtain ⟨a, c, rfl, hc, hm, hx⟩ := lins_shape h
  have HX := Lib.hid hx
  clear hx h
  unfold maxLen at hm
  go_enter Tryz.func56, Tryz.ntmps56
  go_wp2_with fail
  go_loopw [3, 4] (fun n i wr => ∃ k : Nat, k ≤ d.length ∧ i = .int .i64 k ∧ n = .int .i64 (sizeD (d.take k)) ∧ Below w.heap.size w wr) (fun _ i _ => d.length - (intOf i).toNat)
  case atStart => exact ⟨0, Nat.zero_le _, rfl, rfl, Below.refl _ _⟩
  case round =>
    obtain ⟨k, hk, rfl, rfl, hb⟩ := hrel
    by_cases hlt : k < d.length
    · obtain ⟨l, hl, hd⟩ := getOf d k hlt
      obtain ⟨b, o, la, lc, ca, cc, rfl, hA⟩ := HX.out k l hl
      obtain ⟨_, c0, c1, c2, c3, _, _⟩ := hA.below hb
      have e1 := sizeD_step hl
      have e2 := sizeD_le d (k + 1)
      have HE := Lib.hid e1
      have hle : sizeD (d.take k) + l.cells.length ≤ 10000000 := by omega
      clear hA hd hl e1 e2
      go_wp2_with fail
      go_roundw
      case rel =>
        refine ⟨k + 1, hlt, by go_num, ?_, hb⟩
        rw [HE.out]
        go_num
      case measure => simp [intOf]; omega
    · obtain rfl : k = d.length := by omega
      have HT : Hid (d.take d.length = d) := Lib.hid (List.take_length ..)
      have HB := Lib.hid hb
      clear hb
      go_wp2_with fail
      go_ret
      rw [HT.out]
      exact ⟨rfl, HB.out⟩
set_option maxRecDepth 100000 in
set_option maxHeartbeats 4000000 in
theorem refMay_wide (v : Value) (d : Doc) (w : World) (S : Nat → Prop) (h : LinsR w S v d) (hs : SmallW d) :
    Calls Tryz.prog 62 #[v] w fun e w' => e = .returned (.bool (mayD d)) ∧ Below w.heap.size w w' := by
  have HC := Lib.hid (refSize_any v d w S h hs.1)
  have hsz := hs.1
  obtain ⟨a, c, rfl, hc, hm, hx⟩ := lins_shape h
  have HX := Lib.hid hx
  have HS := Lib.hid hs
  unfold maxLen at hm
  clear hx h hs
  by_cases hh : 1 ≤ d.length ∧ d.length ≤ 200 ∧ sizeD d ≤ 4000
  · have HG : Hid (mayD d = d.all mayL) := Lib.hid (by unfold mayD; rw [decide_eq_true hh.1, decide_eq_true hh.2.1, decide_eq_true hh.2.2]; rfl)
    obtain ⟨h1, h2, h3⟩ := hh
    go_enter Tryz.func62, Tryz.ntmps62
    go_wp2_with (go_at_call 56; refine HC.out.mono ?_; rintro e w1 ⟨rfl, hb1⟩)
    go_loopw [3] (fun i wr => ∃ k : Nat, k ≤ d.length ∧ i = .int .i64 k ∧ Hid ((d.take k).all mayL = true) ∧ Below w.heap.size w wr) (fun i _ => d.length - (intOf i).toNat)
    case atStart => exact ⟨0, Nat.zero_le _, rfl, Lib.hid rfl, hb1⟩
    case round =>
      obtain ⟨k, hk, rfl, HA, hb⟩ := hrel
      by_cases hlt : k < d.length
      · obtain ⟨l, hl, _⟩ := getOf d k hlt
        obtain ⟨b, o, la, lc, ca, cc, rfl, hA⟩ := HX.out k l hl
        have HW : Hid (∀ W, Below w.heap.size w W → Calls Tryz.prog 139 #[linV l (.slice la l.lists.length lc) (.slice ca l.cells.length cc)] W fun e w' => e = .returned (.bool (mayL l)) ∧ Below W.heap.size W w') := Lib.hid fun W hW => refLineMay_wide l _ _ W S (hA.below hW).listsR (hA.below hW).cellsR (HS.out.2.2 l (List.mem_of_getElem? hl))
        obtain ⟨_, c0, c1, c2, c3, _, _⟩ := hA.below hb
        have HX2 := Lib.hid hl
        clear hl hA
        cases hm : mayL l
        · rw [hm] at HW
          have HF : Hid (mayD d = false) := Lib.hid (by rw [HG.out]; exact all_no HX2.out hm)
          clear hm
          go_wp2_with (go_at_call 139; refine (HW.out _ hb).mono ?_; rintro e w2 ⟨rfl, hb2⟩)
          go_ret
          rw [HF.out]
          exact ⟨rfl, below_from hb hb2⟩
        · rw [hm] at HW
          have HF := Lib.hid (all_take HX2.out HA.out hm)
          clear hm
          go_wp2_with (go_at_call 139; refine (HW.out _ hb).mono ?_; rintro e w2 ⟨rfl, hb2⟩)
          go_roundw
          case rel => exact ⟨k + 1, hlt, by go_num, HF, below_from hb hb2⟩
          case measure => simp [intOf]; omega
      · obtain rfl : k = d.length := by omega
        have HF : Hid (mayD d = true) := Lib.hid (by have := HA.out; rw [List.take_length] at this; rw [HG.out, this])
        have HB := Lib.hid hb
        clear hb
        go_wp2_with fail
        go_ret
        rw [HF.out]
        exact ⟨rfl, HB.out⟩
  · have HF : Hid (mayD d = false) := Lib.hid (by
      cases hm : mayD d
      · rfl
      · exfalso
        apply hh
        unfold mayD at hm
        simp only [Bool.and_eq_true, decide_eq_true_eq] at hm
        omega)
    have hcs : ((d.length : Int) < 1) ∨ (1 ≤ (d.length : Int) ∧ 200 < (d.length : Int)) ∨ (1 ≤ (d.length : Int) ∧ (d.length : Int) ≤ 200 ∧ 4000 < (sizeD d : Int)) := by omega
    clear hh
    go_enter Tryz.func62, Tryz.ntmps62
    rcases hcs with t1 | ⟨t1, t2⟩ | ⟨t1, t2, t3⟩
    · go_wp2_with fail
      go_ret
      rw [HF.out]
      exact ⟨rfl, Below.refl _ _⟩
    · go_wp2_with fail
      go_ret
      rw [HF.out]
      exact ⟨rfl, Below.refl _ _⟩
    · go_wp2_with (go_at_call 56; refine HC.out.mono ?_; rintro e w1 ⟨rfl, hb1⟩)
      go_ret
      rw [HF.out]
      exact ⟨rfl, hb1⟩
end Go.Proofs.YtpndnbjpnajaaaaGreatDoor
