/- The walks of lines.Frame, lines.Split. -/
import Derived.Test.YtcliojeoindceaaGreatDoorDocPartS
set_option linter.unusedVariables false
set_option linter.unusedSimpArgs false
set_option maxHeartbeats 8000000
namespace Go.Proofs.YtcliojeoindceaaGreatDoor
open Go.RowKit
open Go.Proofs.Qw
open _root_.Go.Lib renaming hid → zA
open _root_.And renaming intro → zB
open _root_.Nat renaming le_refl → zC, le_trans → zD
open _root_.Go.RowKit.Below renaming refl → zE, setCell → zF, alloc → zG, drew → zH
open _root_.Array renaming getElem?_eq_some_iff → zL
open _root_.Go renaming bodyPost_ret → zM, wpAnyH_ready → zQ
open _root_.Go.AllReadyH renaming cons → zN, nil → zO
open _root_.Go.Act renaming put → zU
open _root_.Go.Proofs.YtcliojeoindceaaGreatDoor renaming below_from → zX, heap_below → zY, heap_new → qG, heap_set → qT
open _root_.Go.Proofs.Qw renaming rdOf_stable → qC
open _root_.Go.Proofs.Qw.SliceR renaming stable → qH, below → qJ, tagged → qK
open _root_.Go.Proofs.Qw.Keeps renaming refl → qN, alloc → qO, drew → qP, set → qQ
set_option maxRecDepth 100000 in
theorem lineSplit_any (l : Lin) (la ca : Option Addr) (lc cc p : Nat) (w : World) (S : Nat → Prop) (hL : IntsR false w S (.slice la l.lists.length lc) l.lists) (hC : CelsR false w S (.slice ca l.cells.length cc) l.cells)
  (he : EnvT w) (hs : l.lists.length ≤ 1000000 ∧ l.cells.length ≤ 1000000) (hh : ∀ c ∈ l.cells, c.href.length ≤ 1000000) (hm : mayL l = true) (hp : p ≤ l.cells.length) :
  Calls Tryz.prog 232 #[linV l (.slice la l.lists.length lc) (.slice ca l.cells.length cc), .int .i64 p] w fun e w' => ∃ x1 x2 y1 y2, e = .returned (.tuple #[linV (splitL l p).1 x1 x2, linV (splitL l p).2 y1 y2, .int .i64 0]) ∧
   IntsR true w' (fun b => w.heap.size ≤ b) x1 (splitL l p).1.lists ∧ CelsR true w' (fun b => w.heap.size ≤ b) x2 (splitL l p).1.cells ∧ IntsR true w' (fun b => w.heap.size ≤ b) y1 (splitL l p).2.lists ∧ CelsR true w' (fun b => w.heap.size ≤ b) y2 (splitL l p).2.cells ∧ Below w.heap.size w w' := by
 obtain ⟨W1, hW1⟩ : ∃ W1, ((w.alloc (.cells #[.int .i64 l.quote, .slice la l.lists.length lc, .int .i64 l.kind, .slice ca l.cells.length cc] 60)).alloc (.cells #[.int .i64 0, .slice none 0 0, .int .i64 0, .slice none 0 0] 60)).alloc (.cells #[.int .i64 0, .slice none 0 0, .int .i64 0, .slice none 0 0] 60) = W1 := ⟨_, rfl⟩
 have hB : Below w.heap.size w W1 := hW1 ▸ (((zE _ _).alloc (zC _) _).alloc (by simp) _).alloc (by simp; omega) _
 have hz : w.heap.size + 3 = W1.heap.size := by rw [← hW1]; simp
 have hA0 : W1.heap[w.heap.size]? = some (.cells #[.int .i64 l.quote, .slice la l.lists.length lc, .int .i64 l.kind, .slice ca l.cells.length cc] 60) := hW1 ▸ heap_old _ _ (heap_old _ _ (qG _ _ rfl))
 have hA1 : W1.heap[w.heap.size + 1]? = some (.cells #[.int .i64 0, .slice none 0 0, .int .i64 0, .slice none 0 0] 60) := hW1 ▸ heap_old _ _ (qG _ _ (by simp))
 have hA2 : W1.heap[w.heap.size + 2]? = some (.cells #[.int .i64 0, .slice none 0 0, .int .i64 0, .slice none 0 0] 60) := hW1 ▸ qG _ _ (by simp)
 have HM := zA (lineMay_any l la ca lc cc W1 w S hL hC (he.below hB) hB hh)
 rw [hm] at HM
 have HO : Hid (∀ W, Below w.heap.size w W → Calls Tryz.prog 134 #[linV l (.slice la l.lists.length lc) (.slice ca l.cells.length cc)] W fun e w' => ∃ a' b', e = .returned (linV l a' b') ∧ IntsR true w' (fun b => W.heap.size ≤ b) a' l.lists ∧ CelsR true w' (fun b => W.heap.size ≤ b) b' l.cells ∧ Below W.heap.size W w') := zA fun W hW => lineOwn_any l _ _ false false W w S hL hC hW hs
 have HF : Hid (∀ W, Below w.heap.size w W → Calls Tryz.prog 265 #[linV l (.slice la l.lists.length lc) (.slice ca l.cells.length cc)] W fun e w' => ∃ a', e = .returned (linV l a' (.slice none 0 0)) ∧ IntsR true w' (fun b => W.heap.size ≤ b) a' l.lists ∧ Below W.heap.size W w') := zA fun W hW => lineFrame_any l _ _ false false W w S hL hC hW hs
 have hs1 := hB.size
 have HB : Hid (∀ W, Below W1.heap.size W1 W → W.heap[w.heap.size]? = some (.cells #[.int .i64 l.quote, .slice la l.lists.length lc, .int .i64 l.kind, .slice ca l.cells.length cc] 60) ∧ W.heap[w.heap.size + 1]? = some (.cells #[.int .i64 0, .slice none 0 0, .int .i64 0, .slice none 0 0] 60) ∧ W.heap[w.heap.size + 2]? = some (.cells #[.int .i64 0, .slice none 0 0, .int .i64 0, .slice none 0 0] 60)) := zA fun W hW => ⟨zY hW hA0, zY hW hA1, zY hW hA2⟩
 have H1 := zA hB
 obtain ⟨p0, f0⟩ := blk hA0
 obtain ⟨p1, f1⟩ := blk hA1
 obtain ⟨p2, f2⟩ := blk hA2
 have hccl := hC.len
 unfold maxLen at hccl
 clear hL hC he hs hh hm hB
 have u0 : (0 : Int) ≤ (p : Int) := Int.natCast_nonneg _
 have u1 : (p : Int) ≤ (l.cells.length : Int) := by omega
 unfold linV at HO HF ⊢
 go_enter Tryz.func232, Tryz.ntmps232
 go_wp2_with (go_at_call 131; refine HM.out.mono ?_; rintro e w2 ⟨rfl, hb2⟩; obtain ⟨hA3, hA4, hA5⟩ := HB.out _ hb2; obtain ⟨q0, g0⟩ := blk hA3; obtain ⟨q1, g1⟩ := blk hA4; obtain ⟨q2, g2⟩ := blk hA5)
 have hx2 : Below w.heap.size w w2 := H1.out.trans (hb2.mono hs1)
 have hy2 : Below w2.heap.size w2 w2 := zE _ _
 have hsx2 := hx2.size
 have hsp2 : w.heap.size + 3 ≤ w2.heap.size := by have := hb2.size; omega
 have na2 : ¬ w2.heap.size = w.heap.size := by omega
 have nb2 : ¬ w2.heap.size + 1 = w.heap.size := by omega
 have HB2 : Hid (∀ W, Below w2.heap.size w2 W → W.heap[w.heap.size]? = some (.cells #[.int .i64 l.quote, .slice la l.lists.length lc, .int .i64 l.kind, .slice ca l.cells.length cc] 60)) := zA fun W hW => zY hW hA3
 clear p0 f0 p1 f1 p2 f2 hA0 hA1 hA2 HB HM q1 g1 q2 g2 hW1
 refine Code.wp_mono (Q := EndsIn fun a' w' => ∃ (B C : Nat) (a1 : Option Addr) (c1 : Nat) (a2 : Option Addr) (c2 : Nat) (a3 : Option Addr) (c3 : Nat) (x9 x10 x11 x12 x13 x14 x15 x16 x17 x18 x19 x20 x21 x22 x23 x24 x25 x26 x27 x28 x29 x30 x31 x32 x33 x34 x35 x36 x37 x38 x39 x40 x41 x42 x43 x44 x45 x46 x47 : Value), a' = { tmps := #[.agg #[.int .i64 l.quote, .slice la l.lists.length lc, .int .i64 l.kind, .slice ca l.cells.length cc], .int .i64 p, .pointer (some ⟨w.heap.size, 0, none⟩), undef, .pointer (some ⟨w.heap.size + 1, 0, none⟩), .pointer (some ⟨w.heap.size + 1 + 1, 0, none⟩), .int .i64 0, .pointer (some ⟨B, 0, none⟩), .pointer (some ⟨C, 0, none⟩), x9, x10, x11, x12, x13, x14, x15, x16, x17, x18, x19, x20, x21, x22, x23, x24, x25, x26, x27, x28, x29, x30, x31, x32, x33, x34, x35, x36, x37, x38, x39, x40, x41, x42, x43, x44, x45, x46, x47], defers := [] } ∧
  w2.heap.size ≤ B ∧ w2.heap.size ≤ C ∧ B ≠ C ∧ w'.heap[B]? = some (.cells #[.int .i64 l.quote, .slice a1 l.lists.length c1, .int .i64 l.kind, .slice a2 l.cells.length c2] 60) ∧ w'.heap[C]? = some (.cells #[.int .i64 l.quote, .slice a3 l.lists.length c3, .int .i64 l.kind, .slice none 0 0] 60) ∧
  IntsR true w' (fun b => w2.heap.size ≤ b) (.slice a1 l.lists.length c1) l.lists ∧ CelsR true w' (fun b => w2.heap.size ≤ b) (.slice a2 l.cells.length c2) l.cells ∧ IntsR true w' (fun b => w2.heap.size ≤ b) (.slice a3 l.lists.length c3) l.lists ∧ Below w2.heap.size w2 w') ?_ ?_
 ·intro e a' w' hends
  obtain ⟨rfl, B, C, a1, c1, a2, c2, a3, c3, x9, x10, x11, x12, x13, x14, x15, x16, x17, x18, x19, x20, x21, x22, x23, x24, x25, x26, x27, x28, x29, x30, x31, x32, x33, x34, x35, x36, x37, x38, x39, x40, x41, x42, x43, x44, x45, x46, x47, rfl, hB2, hC2, hne, hA6, hA7, hi1, hc1, hi2, hb3⟩ := endsIn_normal hends
  obtain ⟨r6, s6⟩ := blk hA6
  obtain ⟨r7, s7⟩ := blk hA7
  have hlc := hc1.len
  have u2 : (p : Int) ≤ (c2 : Int) := by omega
  have hne1 : ¬ B = C := hne
  have hne2 : ¬ C = B := fun e => hne e.symm
  have hZ : w'.heap[w.heap.size + 1]? = some (Obj.cells #[.int .i64 0, .slice none 0 0, .int .i64 0, .slice none 0 0] 60) ∧ w'.heap[w.heap.size + 1 + 1]? = some (Obj.cells #[.int .i64 0, .slice none 0 0, .int .i64 0, .slice none 0 0] 60) := ⟨zY hb3 hA4, zY hb3 hA5⟩
  have m1 : ¬ w.heap.size + 1 = B := by omega
  have m2 : ¬ w.heap.size + 1 + 1 = B := by omega
  have m3 : ¬ w.heap.size + 1 = C := by omega
  have m4 : ¬ w.heap.size + 1 + 1 = C := by omega
  have m5 : ¬ B = w.heap.size + 1 := by omega
  have m6 : ¬ B = w.heap.size + 1 + 1 := by omega
  have m7 : ¬ C = w.heap.size + 1 := by omega
  have m8 : ¬ C = w.heap.size + 1 + 1 := by omega
  have hcx : ∀ X : World, X.heap.size = w'.heap.size → (∀ b, b ≠ B → b ≠ C → X.heap[b]? = w'.heap[b]?) → IntsR true X (fun b => w2.heap.size ≤ b) (.slice a1 l.lists.length c1) l.lists ∧ CelsR true X (fun b => w2.heap.size ≤ b) (.slice a2 l.cells.length c2) l.cells ∧ IntsR true X (fun b => w2.heap.size ≤ b) (.slice a3 l.lists.length c3) l.lists := by
   intro X hX hk
   have key : ∀ b : Nat, (∀ cs, w'.heap[b]? ≠ some (.cells cs 60)) → X.heap[b]? = w'.heap[b]? := fun b hno => hk b (fun e => by subst e; exact hno _ hA6) (fun e => by subst e; exact hno _ hA7)
   exact ⟨qK (tagged_of _ _) (by decide) hi1 (by omega) (fun b _ _ hno => key b hno) (fun b h _ => h), qK (tagged_of _ _) (by decide) hc1 (by omega) (fun b _ _ hno => key b hno) (fun b h _ => h), qK (tagged_of _ _) (by decide) hi2 (by omega) (fun b _ _ hno => key b hno) (fun b h _ => h)⟩
  have HCX := zA hcx
  have HZ := zA hZ
  clear hcx hi1 hc1 hi2 hZ HO HF
  rcases (show (l.cells.length = p ∧ c2 = p) ∨ (l.cells.length = p ∧ ¬ c2 = p) ∨ (p < l.cells.length ∧ ¬ c2 = p) by omega) with ⟨hlp, hcp⟩ | ⟨hlp, hcp⟩ | ⟨hlp, hcp⟩
  ·have hcp2 := hcp.symm ; subst hcp2
   have hq : (((l.cells.length - p : Nat) : Int) == 0) = true := by simp; omega
   have hsp : splitL l p = ({ l with cells := l.cells.take p }, { l with kind := 0, cells := [] }) := by unfold splitL; rw [if_pos (by omega)]
   have HSP := zA hsp
   clear hsp
   go_wp2_with fail
   with_reducible refine wp_named ?_
   intro Y hY
   have y1 : Y.heap[B]? = some (.cells #[.int .i64 l.quote, .slice a1 l.lists.length c1, .int .i64 l.kind, .slice a2 p p] 60) := by rw [← hY]; simp [qT, putIn, hne2, hA6]
   have y2 : Y.heap[C]? = some (.cells #[.int .i64 l.quote, .slice a3 l.lists.length c3, (.int .i64 0), (.slice none 0 0)] 60) := by rw [← hY]; simp [qT, putIn, hne1, hA7]
   have y3 : Y.heap[w.heap.size + 1]? = some (Obj.cells #[.int .i64 0, .slice none 0 0, .int .i64 0, .slice none 0 0] 60) := by rw [← hY]; simp [qT, m5, m7, HZ.out.1]
   have y4 : Y.heap[w.heap.size + 1 + 1]? = some (Obj.cells #[.int .i64 0, .slice none 0 0, .int .i64 0, .slice none 0 0] 60) := by rw [← hY]; simp [qT, m6, m8, HZ.out.2]
   have hYZ : Y.heap.size = w'.heap.size := by rw [← hY]; simp
   have hYK : ∀ b, b ≠ B → b ≠ C → Y.heap[b]? = w'.heap[b]? := fun b h1 h2 => by rw [← hY]; simp [qT, Ne.symm h1, Ne.symm h2]
   have hYB : Below w.heap.size w Y := by
    have hq1 : Below w.heap.size w w' := hx2.trans (hb3.mono hsx2)
    rw [← hY]
    ((with_reducible repeat' first | exact zE _ _ | assumption | refine zG ?_ ?_ _ | refine zH ?_ | refine drewN_below ?_ | refine zF ?_ ?_ _) <;> go_size)
   have HYY := zA (HCX.out Y hYZ hYK)
   have HYB := zA hYB
   obtain ⟨v1, f1⟩ := blk y1
   obtain ⟨v2, f2⟩ := blk y2
   obtain ⟨v3, f3⟩ := blk y3
   obtain ⟨v4, f4⟩ := blk y4
   clear hY hYK hYB hA6 hA7 r6 s6 r7 s7
   go_region_held3 (fun w' => w'.cell? ⟨B, 0, none⟩ = some (.int .i64 l.quote) ∧ w'.cell? ⟨B, 1, none⟩ = some (.slice a1 l.lists.length c1) ∧ w'.cell? ⟨B, 2, none⟩ = some (.int .i64 l.kind) ∧ w'.cell? ⟨B, 3, none⟩ = some (.slice a2 p p) ∧ w'.cell? ⟨C, 0, none⟩ = some (.int .i64 l.quote) ∧ w'.cell? ⟨C, 1, none⟩ = some (.slice a3 l.lists.length c3) ∧ w'.cell? ⟨C, 2, none⟩ = some (.int .i64 0) ∧ w'.cell? ⟨C, 3, none⟩ = some (.slice none 0 0)) (go_keep) (fail)
   go_wp2_with fail
   refine zM (results_lines2 rfl _ _ (w.heap.size + 1) (w.heap.size + 1 + 1) (.int .i64 l.quote) (.slice a1 l.lists.length c1) (.int .i64 l.kind) (.slice a2 p p) (.int .i64 l.quote) (.slice a3 l.lists.length c3) (.int .i64 0) (.slice none 0 0) rfl rfl ?_ ?_) rfl ?_
   ·simp [drew_heap, qT, putIn, y3]
   ·simp [drew_heap, qT, putIn, y4]
   rw [HSP.out]
   have g1 := HYY.out.1
   have g3 := HYY.out.2.2
   have g2 : CelsR true Y (fun b => w2.heap.size ≤ b) (.slice a2 p p) (l.cells.take p) := SliceR.caps (SliceR.take HYY.out.2.1 hp) (by rw [List.length_take]; omega) (by omega)
   have g4 : CelsR true Y (fun b => w2.heap.size ≤ b) (.slice none 0 0) ({ l with kind := 0, cells := [] } : Lin).cells := SliceR.nil _ _ _ _ _ _
   have hYB := HYB.out
   exact ⟨_, _, _, _, rfl, (qH (qC _) g1 (by ((with_reducible repeat' first | exact qN _ _ | refine qQ ?_ ?_ _ | refine qO ?_ _ | refine qP ?_) <;> (simp; omega))) (fun b h _ => (by have h' := h; (try simp at h'); omega))), (qH (qC _) g2 (by ((with_reducible repeat' first | exact qN _ _ | refine qQ ?_ ?_ _ | refine qO ?_ _ | refine qP ?_) <;> (simp; omega))) (fun b h _ => (by have h' := h; (try simp at h'); omega))), (qH (qC _) g3 (by ((with_reducible repeat' first | exact qN _ _ | refine qQ ?_ ?_ _ | refine qO ?_ _ | refine qP ?_) <;> (simp; omega))) (fun b h _ => (by have h' := h; (try simp at h'); omega))), (qH (qC _) g4 (by ((with_reducible repeat' first | exact qN _ _ | refine qQ ?_ ?_ _ | refine qO ?_ _ | refine qP ?_) <;> (simp; omega))) (fun b h _ => (by have h' := h; (try simp at h'); omega))), by ((with_reducible repeat' first | exact zE _ _ | assumption | refine zG ?_ ?_ _ | refine zH ?_ | refine drewN_below ?_ | refine zF ?_ ?_ _) <;> go_size)⟩
  ·skip
   have hq : (((l.cells.length - p : Nat) : Int) == 0) = true := by simp; omega
   have hsp : splitL l p = ({ l with cells := l.cells.take p }, { l with kind := 0, cells := [] }) := by unfold splitL; rw [if_pos (by omega)]
   have HSP := zA hsp
   clear hsp
   go_wp2_with fail
   with_reducible refine wp_named ?_
   intro Y hY
   have y1 : Y.heap[B]? = some (.cells #[.int .i64 l.quote, .slice a1 l.lists.length c1, .int .i64 l.kind, .slice a2 p p] 60) := by rw [← hY]; simp [qT, putIn, hne2, hA6]
   have y2 : Y.heap[C]? = some (.cells #[.int .i64 l.quote, .slice a3 l.lists.length c3, (.int .i64 0), (.slice none 0 0)] 60) := by rw [← hY]; simp [qT, putIn, hne1, hA7]
   have y3 : Y.heap[w.heap.size + 1]? = some (Obj.cells #[.int .i64 0, .slice none 0 0, .int .i64 0, .slice none 0 0] 60) := by rw [← hY]; simp [qT, m5, m7, HZ.out.1]
   have y4 : Y.heap[w.heap.size + 1 + 1]? = some (Obj.cells #[.int .i64 0, .slice none 0 0, .int .i64 0, .slice none 0 0] 60) := by rw [← hY]; simp [qT, m6, m8, HZ.out.2]
   have hYZ : Y.heap.size = w'.heap.size := by rw [← hY]; simp
   have hYK : ∀ b, b ≠ B → b ≠ C → Y.heap[b]? = w'.heap[b]? := fun b h1 h2 => by rw [← hY]; simp [qT, Ne.symm h1, Ne.symm h2]
   have hYB : Below w.heap.size w Y := by
    have hq1 : Below w.heap.size w w' := hx2.trans (hb3.mono hsx2)
    rw [← hY]
    ((with_reducible repeat' first | exact zE _ _ | assumption | refine zG ?_ ?_ _ | refine zH ?_ | refine drewN_below ?_ | refine zF ?_ ?_ _) <;> go_size)
   have HYY := zA (HCX.out Y hYZ hYK)
   have HYB := zA hYB
   obtain ⟨v1, f1⟩ := blk y1
   obtain ⟨v2, f2⟩ := blk y2
   obtain ⟨v3, f3⟩ := blk y3
   obtain ⟨v4, f4⟩ := blk y4
   clear hY hYK hYB hA6 hA7 r6 s6 r7 s7
   go_region_held3 (fun w' => w'.cell? ⟨B, 0, none⟩ = some (.int .i64 l.quote) ∧ w'.cell? ⟨B, 1, none⟩ = some (.slice a1 l.lists.length c1) ∧ w'.cell? ⟨B, 2, none⟩ = some (.int .i64 l.kind) ∧ w'.cell? ⟨B, 3, none⟩ = some (.slice a2 p p) ∧ w'.cell? ⟨C, 0, none⟩ = some (.int .i64 l.quote) ∧ w'.cell? ⟨C, 1, none⟩ = some (.slice a3 l.lists.length c3) ∧ w'.cell? ⟨C, 2, none⟩ = some (.int .i64 0) ∧ w'.cell? ⟨C, 3, none⟩ = some (.slice none 0 0)) (go_keep) (fail)
   go_wp2_with fail
   refine zM (results_lines2 rfl _ _ (w.heap.size + 1) (w.heap.size + 1 + 1) (.int .i64 l.quote) (.slice a1 l.lists.length c1) (.int .i64 l.kind) (.slice a2 p p) (.int .i64 l.quote) (.slice a3 l.lists.length c3) (.int .i64 0) (.slice none 0 0) rfl rfl ?_ ?_) rfl ?_
   ·simp [drew_heap, qT, putIn, y3]
   ·simp [drew_heap, qT, putIn, y4]
   rw [HSP.out]
   have g1 := HYY.out.1
   have g3 := HYY.out.2.2
   have g2 : CelsR true Y (fun b => w2.heap.size ≤ b) (.slice a2 p p) (l.cells.take p) := SliceR.caps (SliceR.take HYY.out.2.1 hp) (by rw [List.length_take]; omega) (by omega)
   have g4 : CelsR true Y (fun b => w2.heap.size ≤ b) (.slice none 0 0) ({ l with kind := 0, cells := [] } : Lin).cells := SliceR.nil _ _ _ _ _ _
   have hYB := HYB.out
   exact ⟨_, _, _, _, rfl, (qH (qC _) g1 (by ((with_reducible repeat' first | exact qN _ _ | refine qQ ?_ ?_ _ | refine qO ?_ _ | refine qP ?_) <;> (simp; omega))) (fun b h _ => (by have h' := h; (try simp at h'); omega))), (qH (qC _) g2 (by ((with_reducible repeat' first | exact qN _ _ | refine qQ ?_ ?_ _ | refine qO ?_ _ | refine qP ?_) <;> (simp; omega))) (fun b h _ => (by have h' := h; (try simp at h'); omega))), (qH (qC _) g3 (by ((with_reducible repeat' first | exact qN _ _ | refine qQ ?_ ?_ _ | refine qO ?_ _ | refine qP ?_) <;> (simp; omega))) (fun b h _ => (by have h' := h; (try simp at h'); omega))), (qH (qC _) g4 (by ((with_reducible repeat' first | exact qN _ _ | refine qQ ?_ ?_ _ | refine qO ?_ _ | refine qP ?_) <;> (simp; omega))) (fun b h _ => (by have h' := h; (try simp at h'); omega))), by ((with_reducible repeat' first | exact zE _ _ | assumption | refine zG ?_ ?_ _ | refine zH ?_ | refine drewN_below ?_ | refine zF ?_ ?_ _) <;> go_size)⟩
  ·skip
   have hq : (((l.cells.length - p : Nat) : Int) == 0) = false := by simp; omega
   have hsp : splitL l p = ({ l with cells := l.cells.take p }, { l with cells := l.cells.drop p }) := by unfold splitL; rw [if_neg (by omega)]
   have HSP := zA hsp
   clear hsp
   go_wp2_with fail
   with_reducible refine wp_named ?_
   intro Y hY
   have y1 : Y.heap[B]? = some (.cells #[.int .i64 l.quote, .slice a1 l.lists.length c1, .int .i64 l.kind, .slice a2 p p] 60) := by rw [← hY]; simp [qT, putIn, hne2, hA6]
   have y2 : Y.heap[C]? = some (.cells #[.int .i64 l.quote, .slice a3 l.lists.length c3, (.int .i64 l.kind), (.slice (Option.map (fun x => x.add (p * 3)) a2) (l.cells.length - p) (c2 - p))] 60) := by rw [← hY]; simp [qT, putIn, hne1, hA7]
   have y3 : Y.heap[w.heap.size + 1]? = some (Obj.cells #[.int .i64 0, .slice none 0 0, .int .i64 0, .slice none 0 0] 60) := by rw [← hY]; simp [qT, m5, m7, HZ.out.1]
   have y4 : Y.heap[w.heap.size + 1 + 1]? = some (Obj.cells #[.int .i64 0, .slice none 0 0, .int .i64 0, .slice none 0 0] 60) := by rw [← hY]; simp [qT, m6, m8, HZ.out.2]
   have hYZ : Y.heap.size = w'.heap.size := by rw [← hY]; simp
   have hYK : ∀ b, b ≠ B → b ≠ C → Y.heap[b]? = w'.heap[b]? := fun b h1 h2 => by rw [← hY]; simp [qT, Ne.symm h1, Ne.symm h2]
   have hYB : Below w.heap.size w Y := by
    have hq1 : Below w.heap.size w w' := hx2.trans (hb3.mono hsx2)
    rw [← hY]
    ((with_reducible repeat' first | exact zE _ _ | assumption | refine zG ?_ ?_ _ | refine zH ?_ | refine drewN_below ?_ | refine zF ?_ ?_ _) <;> go_size)
   have HYY := zA (HCX.out Y hYZ hYK)
   have HYB := zA hYB
   obtain ⟨v1, f1⟩ := blk y1
   obtain ⟨v2, f2⟩ := blk y2
   obtain ⟨v3, f3⟩ := blk y3
   obtain ⟨v4, f4⟩ := blk y4
   clear hY hYK hYB hA6 hA7 r6 s6 r7 s7
   go_region_held3 (fun w' => w'.cell? ⟨B, 0, none⟩ = some (.int .i64 l.quote) ∧ w'.cell? ⟨B, 1, none⟩ = some (.slice a1 l.lists.length c1) ∧ w'.cell? ⟨B, 2, none⟩ = some (.int .i64 l.kind) ∧ w'.cell? ⟨B, 3, none⟩ = some (.slice a2 p p) ∧ w'.cell? ⟨C, 0, none⟩ = some (.int .i64 l.quote) ∧ w'.cell? ⟨C, 1, none⟩ = some (.slice a3 l.lists.length c3) ∧ w'.cell? ⟨C, 2, none⟩ = some (.int .i64 l.kind) ∧ w'.cell? ⟨C, 3, none⟩ = some (.slice (Option.map (fun x => x.add (p * 3)) a2) (l.cells.length - p) (c2 - p))) (go_keep) (fail)
   go_wp2_with fail
   refine zM (results_lines2 rfl _ _ (w.heap.size + 1) (w.heap.size + 1 + 1) (.int .i64 l.quote) (.slice a1 l.lists.length c1) (.int .i64 l.kind) (.slice a2 p p) (.int .i64 l.quote) (.slice a3 l.lists.length c3) (.int .i64 l.kind) (.slice (Option.map (fun x => x.add (p * 3)) a2) (l.cells.length - p) (c2 - p)) rfl rfl ?_ ?_) rfl ?_
   ·simp [drew_heap, qT, putIn, y3]
   ·simp [drew_heap, qT, putIn, y4]
   rw [HSP.out]
   have g1 := HYY.out.1
   have g3 := HYY.out.2.2
   have g2 : CelsR true Y (fun b => w2.heap.size ≤ b) (.slice a2 p p) (l.cells.take p) := SliceR.caps (SliceR.take HYY.out.2.1 hp) (by rw [List.length_take]; omega) (by omega)
   have g4 : CelsR true Y (fun b => w2.heap.size ≤ b) (.slice (Option.map (fun x => x.add (p * 3)) a2) (l.cells.length - p) (c2 - p)) ({ l with cells := l.cells.drop p } : Lin).cells := cells_drop HYY.out.2.1 hp hcp
   have hYB := HYB.out
   exact ⟨_, _, _, _, rfl, (qH (qC _) g1 (by ((with_reducible repeat' first | exact qN _ _ | refine qQ ?_ ?_ _ | refine qO ?_ _ | refine qP ?_) <;> (simp; omega))) (fun b h _ => (by have h' := h; (try simp at h'); omega))), (qH (qC _) g2 (by ((with_reducible repeat' first | exact qN _ _ | refine qQ ?_ ?_ _ | refine qO ?_ _ | refine qP ?_) <;> (simp; omega))) (fun b h _ => (by have h' := h; (try simp at h'); omega))), (qH (qC _) g3 (by ((with_reducible repeat' first | exact qN _ _ | refine qQ ?_ ?_ _ | refine qO ?_ _ | refine qP ?_) <;> (simp; omega))) (fun b h _ => (by have h' := h; (try simp at h'); omega))), (qH (qC _) g4 (by ((with_reducible repeat' first | exact qN _ _ | refine qQ ?_ ?_ _ | refine qO ?_ _ | refine qP ?_) <;> (simp; omega))) (fun b h _ => (by have h' := h; (try simp at h'); omega))), by ((with_reducible repeat' first | exact zE _ _ | assumption | refine zG ?_ ?_ _ | refine zH ?_ | refine drewN_below ?_ | refine zF ?_ ?_ _) <;> go_size)⟩
 have HS3 : Hid (∀ X Y : World, Below w2.heap.size w2 X → Y.heap[w.heap.size]? = X.heap[w.heap.size]? → (fun w' => w'.cell? ⟨w.heap.size, 0, none⟩ = some (.int .i64 l.quote) ∧ w'.cell? ⟨w.heap.size, 1, none⟩ = some (.slice la l.lists.length lc) ∧ w'.cell? ⟨w.heap.size, 2, none⟩ = some (.int .i64 l.kind) ∧ w'.cell? ⟨w.heap.size, 3, none⟩ = some (.slice ca l.cells.length cc)) Y) := zA fun X Y hX hY => (fun q => ⟨q 0, q 1, q 2, q 3⟩) (blk (hY.trans (HB2.out X hX))).1
 have HS2 : Hid (∀ X : World, Below w2.heap.size w2 X → (fun w' => w'.cell? ⟨w.heap.size, 0, none⟩ = some (.int .i64 l.quote) ∧ w'.cell? ⟨w.heap.size, 1, none⟩ = some (.slice la l.lists.length lc) ∧ w'.cell? ⟨w.heap.size, 2, none⟩ = some (.int .i64 l.kind) ∧ w'.cell? ⟨w.heap.size, 3, none⟩ = some (.slice ca l.cells.length cc)) X) := zA fun X hX => HS3.out X X hX rfl
 clear q0 g0
 have hB0 : Below w2.heap.size w2 w2.drew := hy2.drew
 refine wp_region_held_drew (S := (fun w' => w'.cell? ⟨w.heap.size, 0, none⟩ = some (.int .i64 l.quote) ∧ w'.cell? ⟨w.heap.size, 1, none⟩ = some (.slice la l.lists.length lc) ∧ w'.cell? ⟨w.heap.size, 2, none⟩ = some (.int .i64 l.kind) ∧ w'.cell? ⟨w.heap.size, 3, none⟩ = some (.slice ca l.cells.length cc))) (by kernel_rfl) (HS2.out _ hB0) (fun hHeld => ?_)
 obtain ⟨X0, hX0⟩ : ∃ X, w2.drew = X := ⟨_, rfl⟩
 rw [hX0] at hB0 hHeld ⊢
 have N0 := zA hB0
 clear hX0 hB0
 refine wpAnyH_take (i := 0) (v := ?_) (by simp only [qA, qZ]; rfl) (by kernel_rfl) (by kernel_rfl) (by kernel_rfl) (fun _ _ _ h => h) (Or.inl ⟨by rfl, ?_⟩) (by assumption) ?_
 rotate_left 1
 ·intro w hSw; (try dsimp only at hSw); go_simp; (first | done | with_reducible rfl)
 try simp only [zU, qI, qX, qY]
 refine wpAnyH_take (i := 2) (v := ?_) (by simp only [qA, qS, qZ]; rfl) (by kernel_rfl) (by kernel_rfl) (by kernel_rfl) (fun _ _ _ h => h) (Or.inl ⟨by rfl, ?_⟩) (by assumption) ?_
 rotate_left 1
 ·intro w hSw; (try dsimp only at hSw); go_simp; (first | done | with_reducible rfl)
 try simp only [zU, qI, qX, qY]
 -- TREE
 refine zQ (rs := [1, 4, 5]) (by kernel_rfl) (by simp) ?_
 refine zN (by simp only [qA, qS, qZ]; rfl) (fun K hK => ?_) ?_
 ·go_simp
  refine (HO.out _ (hx2.trans (N0.out.mono hsx2))).mono ?_
  rintro e X1 ⟨a', b', rfl, ha, hb, hst1⟩
  obtain ⟨a1, c1, rfl⟩ := ha.slice
  obtain ⟨a2, c2, rfl⟩ := hb.slice
  have hu := N0.out.size
  have t1_0 := zX N0.out hst1
  have t1_1 := qH (qC _) ha (qN _ _) (S' := fun b => w2.heap.size ≤ b) (fun b h _ => zD hu h)
  have t1_2 := qH (qC _) hb (qN _ _) (S' := fun b => w2.heap.size ≤ b) (fun b h _ => zD hu h)
  have N1 := zA (zB t1_0 (zB t1_1 (t1_2)))
  refine hK.out _ _ (HS2.out _ N1.out.1) (fun hHeld1 => ?_)
  clear hK K t1_0 t1_1 t1_2 hHeld N0 hst1
  try simp only [zU, qI, qX, qY]
  clear ha hb hu
  refine zQ (rs := [3, 4, 5]) (by kernel_rfl) (by simp) ?_
  refine zN (by simp only [qA, qS, qZ]; rfl) (fun K hK => ?_) ?_
  ·go_simp
   refine (HF.out _ (hx2.trans (N1.out.1.mono hsx2))).mono ?_
   rintro e X2 ⟨a'', rfl, hc, hst2⟩
   obtain ⟨a3, c3, rfl⟩ := hc.slice
   have hu := N1.out.1.size
   have t2_0 := zX N1.out.1 hst2
   have t2_1 := qJ (qC _) N1.out.2.1 hst2
   have t2_2 := qJ (qC _) N1.out.2.2 hst2
   have t2_3 := qH (qC _) hc (qN _ _) (S' := fun b => w2.heap.size ≤ b) (fun b h _ => zD hu h)
   have N2 := zA (zB t2_0 (zB t2_1 (zB t2_2 (t2_3))))
   refine hK.out _ _ (HS2.out _ N2.out.1) (fun hHeld2 => ?_)
   clear hK K t2_0 t2_1 t2_2 t2_3 hHeld1 N1 hst2
   try simp only [zU, qI, qX, qY]
   clear hc hu
   refine zQ (rs := [4, 5]) (by kernel_rfl) (by simp) ?_
   refine zN (by simp only [qA, qS, qZ]; rfl) (fun K hK => ?_) ?_
   ·go_simp
    obtain ⟨X3, hX3⟩ : ∃ X, X2.alloc (.cells #[.int .i64 0, .slice none 0 0, .int .i64 0, .slice none 0 0] 60) = X := ⟨_, rfl⟩
    rw [hX3]
    have hst3 : Below X2.heap.size X2 X3 := hX3 ▸ (zE _ _).alloc (zC _) _
    have z3 : X3.heap[X2.heap.size]? = some (.cells #[.int .i64 0, .slice none 0 0, .int .i64 0, .slice none 0 0] 60) := hX3 ▸ qG _ _ rfl
    clear hX3
    have t3_0 := zX N2.out.1 hst3
    have t3_1 := qJ (qC _) N2.out.2.1 hst3
    have t3_2 := qJ (qC _) N2.out.2.2.1 hst3
    have t3_3 := qJ (qC _) N2.out.2.2.2 hst3
    have t3_4 := z3
    have t3_5 := N2.out.1.size
    have N3 := zA (zB t3_0 (zB t3_1 (zB t3_2 (zB t3_3 (zB t3_4 (t3_5))))))
    refine hK.out _ _ (HS2.out _ N3.out.1) (fun hHeld3 => ?_)
    clear hK K t3_0 t3_1 t3_2 t3_3 t3_4 t3_5 hHeld2 N2 hst3
    try simp only [zU, qI, qX, qY]
    clear z3
    refine zQ (rs := [5]) (by kernel_rfl) (by simp) ?_
    refine zN (by simp only [qA, qS, qZ]; rfl) (fun K hK => ?_) ?_
    ·go_simp
     obtain ⟨X4, hX4⟩ : ∃ X, X3.alloc (.cells #[.int .i64 0, .slice none 0 0, .int .i64 0, .slice none 0 0] 60) = X := ⟨_, rfl⟩
     rw [hX4]
     have hst4 : Below X3.heap.size X3 X4 := hX4 ▸ (zE _ _).alloc (zC _) _
     have z4 : X4.heap[X3.heap.size]? = some (.cells #[.int .i64 0, .slice none 0 0, .int .i64 0, .slice none 0 0] 60) := hX4 ▸ qG _ _ rfl
     clear hX4
     have t4_0 := zX N3.out.1 hst4
     have t4_1 := qJ (qC _) N3.out.2.1 hst4
     have t4_2 := qJ (qC _) N3.out.2.2.1 hst4
     have t4_3 := qJ (qC _) N3.out.2.2.2.1 hst4
     have t4_4 := zY hst4 N3.out.2.2.2.2.1
     have t4_5 := N3.out.2.2.2.2.2
     have t4_6 := z4
     have t4_7 := N3.out.1.size
     have t4_8 := (zL.1 N3.out.2.2.2.2.1).1
     have N4 := zA (zB t4_0 (zB t4_1 (zB t4_2 (zB t4_3 (zB t4_4 (zB t4_5 (zB t4_6 (zB t4_7 (t4_8)))))))))
     refine hK.out _ _ (HS2.out _ N4.out.1) (fun hHeld4 => ?_)
     clear hK K t4_0 t4_1 t4_2 t4_3 t4_4 t4_5 t4_6 t4_7 t4_8 hHeld3 N3 hst4
     try simp only [zU, qI, qX, qY]
     clear z4
     have z4 := N4.out.2.2.2.2.1
     have z5 := N4.out.2.2.2.2.2.2.1
     have eB := N4.out.2.2.2.2.2.1
     have eC := N4.out.2.2.2.2.2.2.2.1
     have nBC : ¬ X2.heap.size = X3.heap.size := by have := N4.out.2.2.2.2.2.2.2.2; omega
     have nCB : ¬ X3.heap.size = X2.heap.size := fun e => nBC e.symm
     have mB : ¬ X2.heap.size = w.heap.size := by omega
     have mC : ¬ X3.heap.size = w.heap.size := by omega
     obtain ⟨c4, f4⟩ := blk z4
     refine zQ (rs := [6]) (by kernel_rfl) (by simp) ?_
     refine zN (by simp only [qA, qS, qZ]; rfl) (fun K hK => ?_) zO
     go_simp
     obtain ⟨Y6, hY6, y6B, y6z, y6k, y6b⟩ := set_four X4 (X2.heap.size) 60 (.int .i64 0) (.slice none 0 0) (.int .i64 0) (.slice none 0 0) (.int .i64 l.quote) (.slice a1 l.lists.length c1) (.int .i64 l.kind) (.slice a2 l.cells.length c2) z4
     rw [hY6]
     have z5y := (y6k _ nCB).trans z5
     refine hK.out _ _ (HS3.out X4 Y6 N4.out.1 (y6k _ (fun e => mB e.symm))) (fun hHeld => ?_)
     have Z6 := zA (zB y6B (zB y6k y6b))
     obtain ⟨c5, f5⟩ := blk z5y
     clear hK K hY6 c4 f4 y6B y6k y6b
     try simp only [zU, qI, qX, qY]
     refine zQ (rs := [7]) (by kernel_rfl) (by simp) ?_
     refine zN (by simp only [qA, qS, qZ]; rfl) (fun K hK => ?_) zO
     go_simp
     obtain ⟨Y7, hY7, y7B, y7z, y7k, y7b⟩ := set_four Y6 (X3.heap.size) 60 (.int .i64 0) (.slice none 0 0) (.int .i64 0) (.slice none 0 0) (.int .i64 l.quote) (.slice a3 l.lists.length c3) (.int .i64 l.kind) (.slice none 0 0) z5y
     rw [hY7]
     refine hK.out _ _ (HS3.out X4 Y7 N4.out.1 ((y7k _ (fun e => mC e.symm)).trans (Z6.out.2.1 _ (fun e => mB e.symm)))) (fun hHeld => ?_)
     refine wpAnyH_done (by kernel_rfl) ?_ _
     have key : ∀ b : Nat, (∀ cs, X4.heap[b]? ≠ some (.cells cs 60)) → Y7.heap[b]? = X4.heap[b]? := fun b hno => (y7k b (fun e => by subst e; exact hno _ z5)).trans (Z6.out.2.1 b (fun e => by subst e; exact hno _ z4))
     exact ⟨X2.heap.size, X3.heap.size, a1, c1, a2, c2, a3, c3, _, _, _, _, _, _, _, _, _, _, _, _, _, _, _, _, _, _, _, _, _, _, _, _, _, _, _, _, _, _, _, _, _, _, _, _, _, _, _, rfl, eB, eC, nBC, (y7k _ nBC).trans Z6.out.1, y7B, qK (tagged_of _ _) (by decide) N4.out.2.1 (by omega) (fun b _ _ hno => key b hno) (fun b h _ => h), qK (tagged_of _ _) (by decide) N4.out.2.2.1 (by omega) (fun b _ _ hno => key b hno) (fun b h _ => h), qK (tagged_of _ _) (by decide) N4.out.2.2.2.1 (by omega) (fun b _ _ hno => key b hno) (fun b h _ => h), y7b _ eC _ (Z6.out.2.2 _ eB _ N4.out.1)⟩
    exact zO
   refine zN (by simp only [qA, qS, qZ]; rfl) (fun K hK => ?_) ?_
   ·go_simp
    obtain ⟨X3, hX3⟩ : ∃ X, X2.alloc (.cells #[.int .i64 0, .slice none 0 0, .int .i64 0, .slice none 0 0] 60) = X := ⟨_, rfl⟩
    rw [hX3]
    have hst3 : Below X2.heap.size X2 X3 := hX3 ▸ (zE _ _).alloc (zC _) _
    have z3 : X3.heap[X2.heap.size]? = some (.cells #[.int .i64 0, .slice none 0 0, .int .i64 0, .slice none 0 0] 60) := hX3 ▸ qG _ _ rfl
    clear hX3
    have t3_0 := zX N2.out.1 hst3
    have t3_1 := qJ (qC _) N2.out.2.1 hst3
    have t3_2 := qJ (qC _) N2.out.2.2.1 hst3
    have t3_3 := qJ (qC _) N2.out.2.2.2 hst3
    have t3_4 := z3
    have t3_5 := N2.out.1.size
    have N3 := zA (zB t3_0 (zB t3_1 (zB t3_2 (zB t3_3 (zB t3_4 (t3_5))))))
    refine hK.out _ _ (HS2.out _ N3.out.1) (fun hHeld3 => ?_)
    clear hK K t3_0 t3_1 t3_2 t3_3 t3_4 t3_5 hHeld2 N2 hst3
    try simp only [zU, qI, qX, qY]
    clear z3
    refine zQ (rs := [4]) (by kernel_rfl) (by simp) ?_
    refine zN (by simp only [qA, qS, qZ]; rfl) (fun K hK => ?_) ?_
    ·go_simp
     obtain ⟨X4, hX4⟩ : ∃ X, X3.alloc (.cells #[.int .i64 0, .slice none 0 0, .int .i64 0, .slice none 0 0] 60) = X := ⟨_, rfl⟩
     rw [hX4]
     have hst4 : Below X3.heap.size X3 X4 := hX4 ▸ (zE _ _).alloc (zC _) _
     have z4 : X4.heap[X3.heap.size]? = some (.cells #[.int .i64 0, .slice none 0 0, .int .i64 0, .slice none 0 0] 60) := hX4 ▸ qG _ _ rfl
     clear hX4
     have t4_0 := zX N3.out.1 hst4
     have t4_1 := qJ (qC _) N3.out.2.1 hst4
     have t4_2 := qJ (qC _) N3.out.2.2.1 hst4
     have t4_3 := qJ (qC _) N3.out.2.2.2.1 hst4
     have t4_4 := zY hst4 N3.out.2.2.2.2.1
     have t4_5 := N3.out.2.2.2.2.2
     have t4_6 := z4
     have t4_7 := N3.out.1.size
     have t4_8 := (zL.1 N3.out.2.2.2.2.1).1
     have N4 := zA (zB t4_0 (zB t4_1 (zB t4_2 (zB t4_3 (zB t4_4 (zB t4_5 (zB t4_6 (zB t4_7 (t4_8)))))))))
     refine hK.out _ _ (HS2.out _ N4.out.1) (fun hHeld4 => ?_)
     clear hK K t4_0 t4_1 t4_2 t4_3 t4_4 t4_5 t4_6 t4_7 t4_8 hHeld3 N3 hst4
     try simp only [zU, qI, qX, qY]
     clear z4
     have z4 := N4.out.2.2.2.2.2.2.1
     have z5 := N4.out.2.2.2.2.1
     have eB := N4.out.2.2.2.2.2.2.2.1
     have eC := N4.out.2.2.2.2.2.1
     have nBC : ¬ X3.heap.size = X2.heap.size := by have := N4.out.2.2.2.2.2.2.2.2; omega
     have nCB : ¬ X2.heap.size = X3.heap.size := fun e => nBC e.symm
     have mB : ¬ X3.heap.size = w.heap.size := by omega
     have mC : ¬ X2.heap.size = w.heap.size := by omega
     obtain ⟨c4, f4⟩ := blk z4
     refine zQ (rs := [6]) (by kernel_rfl) (by simp) ?_
     refine zN (by simp only [qA, qS, qZ]; rfl) (fun K hK => ?_) zO
     go_simp
     obtain ⟨Y6, hY6, y6B, y6z, y6k, y6b⟩ := set_four X4 (X3.heap.size) 60 (.int .i64 0) (.slice none 0 0) (.int .i64 0) (.slice none 0 0) (.int .i64 l.quote) (.slice a1 l.lists.length c1) (.int .i64 l.kind) (.slice a2 l.cells.length c2) z4
     rw [hY6]
     have z5y := (y6k _ nCB).trans z5
     refine hK.out _ _ (HS3.out X4 Y6 N4.out.1 (y6k _ (fun e => mB e.symm))) (fun hHeld => ?_)
     have Z6 := zA (zB y6B (zB y6k y6b))
     obtain ⟨c5, f5⟩ := blk z5y
     clear hK K hY6 c4 f4 y6B y6k y6b
     try simp only [zU, qI, qX, qY]
     refine zQ (rs := [7]) (by kernel_rfl) (by simp) ?_
     refine zN (by simp only [qA, qS, qZ]; rfl) (fun K hK => ?_) zO
     go_simp
     obtain ⟨Y7, hY7, y7B, y7z, y7k, y7b⟩ := set_four Y6 (X2.heap.size) 60 (.int .i64 0) (.slice none 0 0) (.int .i64 0) (.slice none 0 0) (.int .i64 l.quote) (.slice a3 l.lists.length c3) (.int .i64 l.kind) (.slice none 0 0) z5y
     rw [hY7]
     refine hK.out _ _ (HS3.out X4 Y7 N4.out.1 ((y7k _ (fun e => mC e.symm)).trans (Z6.out.2.1 _ (fun e => mB e.symm)))) (fun hHeld => ?_)
     refine wpAnyH_done (by kernel_rfl) ?_ _
     have key : ∀ b : Nat, (∀ cs, X4.heap[b]? ≠ some (.cells cs 60)) → Y7.heap[b]? = X4.heap[b]? := fun b hno => (y7k b (fun e => by subst e; exact hno _ z5)).trans (Z6.out.2.1 b (fun e => by subst e; exact hno _ z4))
     exact ⟨X3.heap.size, X2.heap.size, a1, c1, a2, c2, a3, c3, _, _, _, _, _, _, _, _, _, _, _, _, _, _, _, _, _, _, _, _, _, _, _, _, _, _, _, _, _, _, _, _, _, _, _, _, _, _, _, rfl, eB, eC, nBC, (y7k _ nBC).trans Z6.out.1, y7B, qK (tagged_of _ _) (by decide) N4.out.2.1 (by omega) (fun b _ _ hno => key b hno) (fun b h _ => h), qK (tagged_of _ _) (by decide) N4.out.2.2.1 (by omega) (fun b _ _ hno => key b hno) (fun b h _ => h), qK (tagged_of _ _) (by decide) N4.out.2.2.2.1 (by omega) (fun b _ _ hno => key b hno) (fun b h _ => h), y7b _ eC _ (Z6.out.2.2 _ eB _ N4.out.1)⟩
    exact zO
   exact zO
  refine zN (by simp only [qA, qS, qZ]; rfl) (fun K hK => ?_) ?_
  ·go_simp
   obtain ⟨X2, hX2⟩ : ∃ X, X1.alloc (.cells #[.int .i64 0, .slice none 0 0, .int .i64 0, .slice none 0 0] 60) = X := ⟨_, rfl⟩
   rw [hX2]
   have hst2 : Below X1.heap.size X1 X2 := hX2 ▸ (zE _ _).alloc (zC _) _
   have z2 : X2.heap[X1.heap.size]? = some (.cells #[.int .i64 0, .slice none 0 0, .int .i64 0, .slice none 0 0] 60) := hX2 ▸ qG _ _ rfl
   clear hX2
   have t2_0 := zX N1.out.1 hst2
   have t2_1 := qJ (qC _) N1.out.2.1 hst2
   have t2_2 := qJ (qC _) N1.out.2.2 hst2
   have t2_3 := z2
   have t2_4 := N1.out.1.size
   have N2 := zA (zB t2_0 (zB t2_1 (zB t2_2 (zB t2_3 (t2_4)))))
   refine hK.out _ _ (HS2.out _ N2.out.1) (fun hHeld2 => ?_)
   clear hK K t2_0 t2_1 t2_2 t2_3 t2_4 hHeld1 N1 hst2
   try simp only [zU, qI, qX, qY]
   clear z2
   refine zQ (rs := [3, 5]) (by kernel_rfl) (by simp) ?_
   refine zN (by simp only [qA, qS, qZ]; rfl) (fun K hK => ?_) ?_
   ·go_simp
    refine (HF.out _ (hx2.trans (N2.out.1.mono hsx2))).mono ?_
    rintro e X3 ⟨a'', rfl, hc, hst3⟩
    obtain ⟨a3, c3, rfl⟩ := hc.slice
    have hu := N2.out.1.size
    have t3_0 := zX N2.out.1 hst3
    have t3_1 := qJ (qC _) N2.out.2.1 hst3
    have t3_2 := qJ (qC _) N2.out.2.2.1 hst3
    have t3_3 := zY hst3 N2.out.2.2.2.1
    have t3_4 := N2.out.2.2.2.2
    have t3_5 := qH (qC _) hc (qN _ _) (S' := fun b => w2.heap.size ≤ b) (fun b h _ => zD hu h)
    have N3 := zA (zB t3_0 (zB t3_1 (zB t3_2 (zB t3_3 (zB t3_4 (t3_5))))))
    refine hK.out _ _ (HS2.out _ N3.out.1) (fun hHeld3 => ?_)
    clear hK K t3_0 t3_1 t3_2 t3_3 t3_4 t3_5 hHeld2 N2 hst3
    try simp only [zU, qI, qX, qY]
    clear hc hu
    refine zQ (rs := [5]) (by kernel_rfl) (by simp) ?_
    refine zN (by simp only [qA, qS, qZ]; rfl) (fun K hK => ?_) ?_
    ·go_simp
     obtain ⟨X4, hX4⟩ : ∃ X, X3.alloc (.cells #[.int .i64 0, .slice none 0 0, .int .i64 0, .slice none 0 0] 60) = X := ⟨_, rfl⟩
     rw [hX4]
     have hst4 : Below X3.heap.size X3 X4 := hX4 ▸ (zE _ _).alloc (zC _) _
     have z4 : X4.heap[X3.heap.size]? = some (.cells #[.int .i64 0, .slice none 0 0, .int .i64 0, .slice none 0 0] 60) := hX4 ▸ qG _ _ rfl
     clear hX4
     have t4_0 := zX N3.out.1 hst4
     have t4_1 := qJ (qC _) N3.out.2.1 hst4
     have t4_2 := qJ (qC _) N3.out.2.2.1 hst4
     have t4_3 := zY hst4 N3.out.2.2.2.1
     have t4_4 := N3.out.2.2.2.2.1
     have t4_5 := qJ (qC _) N3.out.2.2.2.2.2 hst4
     have t4_6 := z4
     have t4_7 := N3.out.1.size
     have t4_8 := (zL.1 N3.out.2.2.2.1).1
     have N4 := zA (zB t4_0 (zB t4_1 (zB t4_2 (zB t4_3 (zB t4_4 (zB t4_5 (zB t4_6 (zB t4_7 (t4_8)))))))))
     refine hK.out _ _ (HS2.out _ N4.out.1) (fun hHeld4 => ?_)
     clear hK K t4_0 t4_1 t4_2 t4_3 t4_4 t4_5 t4_6 t4_7 t4_8 hHeld3 N3 hst4
     try simp only [zU, qI, qX, qY]
     clear z4
     have z4 := N4.out.2.2.2.1
     have z5 := N4.out.2.2.2.2.2.2.1
     have eB := N4.out.2.2.2.2.1
     have eC := N4.out.2.2.2.2.2.2.2.1
     have nBC : ¬ X1.heap.size = X3.heap.size := by have := N4.out.2.2.2.2.2.2.2.2; omega
     have nCB : ¬ X3.heap.size = X1.heap.size := fun e => nBC e.symm
     have mB : ¬ X1.heap.size = w.heap.size := by omega
     have mC : ¬ X3.heap.size = w.heap.size := by omega
     obtain ⟨c4, f4⟩ := blk z4
     refine zQ (rs := [6]) (by kernel_rfl) (by simp) ?_
     refine zN (by simp only [qA, qS, qZ]; rfl) (fun K hK => ?_) zO
     go_simp
     obtain ⟨Y6, hY6, y6B, y6z, y6k, y6b⟩ := set_four X4 (X1.heap.size) 60 (.int .i64 0) (.slice none 0 0) (.int .i64 0) (.slice none 0 0) (.int .i64 l.quote) (.slice a1 l.lists.length c1) (.int .i64 l.kind) (.slice a2 l.cells.length c2) z4
     rw [hY6]
     have z5y := (y6k _ nCB).trans z5
     refine hK.out _ _ (HS3.out X4 Y6 N4.out.1 (y6k _ (fun e => mB e.symm))) (fun hHeld => ?_)
     have Z6 := zA (zB y6B (zB y6k y6b))
     obtain ⟨c5, f5⟩ := blk z5y
     clear hK K hY6 c4 f4 y6B y6k y6b
     try simp only [zU, qI, qX, qY]
     refine zQ (rs := [7]) (by kernel_rfl) (by simp) ?_
     refine zN (by simp only [qA, qS, qZ]; rfl) (fun K hK => ?_) zO
     go_simp
     obtain ⟨Y7, hY7, y7B, y7z, y7k, y7b⟩ := set_four Y6 (X3.heap.size) 60 (.int .i64 0) (.slice none 0 0) (.int .i64 0) (.slice none 0 0) (.int .i64 l.quote) (.slice a3 l.lists.length c3) (.int .i64 l.kind) (.slice none 0 0) z5y
     rw [hY7]
     refine hK.out _ _ (HS3.out X4 Y7 N4.out.1 ((y7k _ (fun e => mC e.symm)).trans (Z6.out.2.1 _ (fun e => mB e.symm)))) (fun hHeld => ?_)
     refine wpAnyH_done (by kernel_rfl) ?_ _
     have key : ∀ b : Nat, (∀ cs, X4.heap[b]? ≠ some (.cells cs 60)) → Y7.heap[b]? = X4.heap[b]? := fun b hno => (y7k b (fun e => by subst e; exact hno _ z5)).trans (Z6.out.2.1 b (fun e => by subst e; exact hno _ z4))
     exact ⟨X1.heap.size, X3.heap.size, a1, c1, a2, c2, a3, c3, _, _, _, _, _, _, _, _, _, _, _, _, _, _, _, _, _, _, _, _, _, _, _, _, _, _, _, _, _, _, _, _, _, _, _, _, _, _, _, rfl, eB, eC, nBC, (y7k _ nBC).trans Z6.out.1, y7B, qK (tagged_of _ _) (by decide) N4.out.2.1 (by omega) (fun b _ _ hno => key b hno) (fun b h _ => h), qK (tagged_of _ _) (by decide) N4.out.2.2.1 (by omega) (fun b _ _ hno => key b hno) (fun b h _ => h), qK (tagged_of _ _) (by decide) N4.out.2.2.2.2.2.1 (by omega) (fun b _ _ hno => key b hno) (fun b h _ => h), y7b _ eC _ (Z6.out.2.2 _ eB _ N4.out.1)⟩
    exact zO
   refine zN (by simp only [qA, qS, qZ]; rfl) (fun K hK => ?_) ?_
   ·go_simp
    obtain ⟨X3, hX3⟩ : ∃ X, X2.alloc (.cells #[.int .i64 0, .slice none 0 0, .int .i64 0, .slice none 0 0] 60) = X := ⟨_, rfl⟩
    rw [hX3]
    have hst3 : Below X2.heap.size X2 X3 := hX3 ▸ (zE _ _).alloc (zC _) _
    have z3 : X3.heap[X2.heap.size]? = some (.cells #[.int .i64 0, .slice none 0 0, .int .i64 0, .slice none 0 0] 60) := hX3 ▸ qG _ _ rfl
    clear hX3
    have t3_0 := zX N2.out.1 hst3
    have t3_1 := qJ (qC _) N2.out.2.1 hst3
    have t3_2 := qJ (qC _) N2.out.2.2.1 hst3
    have t3_3 := zY hst3 N2.out.2.2.2.1
    have t3_4 := N2.out.2.2.2.2
    have t3_5 := z3
    have t3_6 := N2.out.1.size
    have t3_7 := (zL.1 N2.out.2.2.2.1).1
    have N3 := zA (zB t3_0 (zB t3_1 (zB t3_2 (zB t3_3 (zB t3_4 (zB t3_5 (zB t3_6 (t3_7))))))))
    refine hK.out _ _ (HS2.out _ N3.out.1) (fun hHeld3 => ?_)
    clear hK K t3_0 t3_1 t3_2 t3_3 t3_4 t3_5 t3_6 t3_7 hHeld2 N2 hst3
    try simp only [zU, qI, qX, qY]
    clear z3
    refine zQ (rs := [3]) (by kernel_rfl) (by simp) ?_
    refine zN (by simp only [qA, qS, qZ]; rfl) (fun K hK => ?_) ?_
    ·go_simp
     refine (HF.out _ (hx2.trans (N3.out.1.mono hsx2))).mono ?_
     rintro e X4 ⟨a'', rfl, hc, hst4⟩
     obtain ⟨a3, c3, rfl⟩ := hc.slice
     have hu := N3.out.1.size
     have t4_0 := zX N3.out.1 hst4
     have t4_1 := qJ (qC _) N3.out.2.1 hst4
     have t4_2 := qJ (qC _) N3.out.2.2.1 hst4
     have t4_3 := zY hst4 N3.out.2.2.2.1
     have t4_4 := N3.out.2.2.2.2.1
     have t4_5 := zY hst4 N3.out.2.2.2.2.2.1
     have t4_6 := N3.out.2.2.2.2.2.2.1
     have t4_7 := N3.out.2.2.2.2.2.2.2
     have t4_8 := qH (qC _) hc (qN _ _) (S' := fun b => w2.heap.size ≤ b) (fun b h _ => zD hu h)
     have N4 := zA (zB t4_0 (zB t4_1 (zB t4_2 (zB t4_3 (zB t4_4 (zB t4_5 (zB t4_6 (zB t4_7 (t4_8)))))))))
     refine hK.out _ _ (HS2.out _ N4.out.1) (fun hHeld4 => ?_)
     clear hK K t4_0 t4_1 t4_2 t4_3 t4_4 t4_5 t4_6 t4_7 t4_8 hHeld3 N3 hst4
     try simp only [zU, qI, qX, qY]
     clear hc hu
     have z4 := N4.out.2.2.2.1
     have z5 := N4.out.2.2.2.2.2.1
     have eB := N4.out.2.2.2.2.1
     have eC := N4.out.2.2.2.2.2.2.1
     have nBC : ¬ X1.heap.size = X2.heap.size := by have := N4.out.2.2.2.2.2.2.2.1; omega
     have nCB : ¬ X2.heap.size = X1.heap.size := fun e => nBC e.symm
     have mB : ¬ X1.heap.size = w.heap.size := by omega
     have mC : ¬ X2.heap.size = w.heap.size := by omega
     obtain ⟨c4, f4⟩ := blk z4
     refine zQ (rs := [6]) (by kernel_rfl) (by simp) ?_
     refine zN (by simp only [qA, qS, qZ]; rfl) (fun K hK => ?_) zO
     go_simp
     obtain ⟨Y6, hY6, y6B, y6z, y6k, y6b⟩ := set_four X4 (X1.heap.size) 60 (.int .i64 0) (.slice none 0 0) (.int .i64 0) (.slice none 0 0) (.int .i64 l.quote) (.slice a1 l.lists.length c1) (.int .i64 l.kind) (.slice a2 l.cells.length c2) z4
     rw [hY6]
     have z5y := (y6k _ nCB).trans z5
     refine hK.out _ _ (HS3.out X4 Y6 N4.out.1 (y6k _ (fun e => mB e.symm))) (fun hHeld => ?_)
     have Z6 := zA (zB y6B (zB y6k y6b))
     obtain ⟨c5, f5⟩ := blk z5y
     clear hK K hY6 c4 f4 y6B y6k y6b
     try simp only [zU, qI, qX, qY]
     refine zQ (rs := [7]) (by kernel_rfl) (by simp) ?_
     refine zN (by simp only [qA, qS, qZ]; rfl) (fun K hK => ?_) zO
     go_simp
     obtain ⟨Y7, hY7, y7B, y7z, y7k, y7b⟩ := set_four Y6 (X2.heap.size) 60 (.int .i64 0) (.slice none 0 0) (.int .i64 0) (.slice none 0 0) (.int .i64 l.quote) (.slice a3 l.lists.length c3) (.int .i64 l.kind) (.slice none 0 0) z5y
     rw [hY7]
     refine hK.out _ _ (HS3.out X4 Y7 N4.out.1 ((y7k _ (fun e => mC e.symm)).trans (Z6.out.2.1 _ (fun e => mB e.symm)))) (fun hHeld => ?_)
     refine wpAnyH_done (by kernel_rfl) ?_ _
     have key : ∀ b : Nat, (∀ cs, X4.heap[b]? ≠ some (.cells cs 60)) → Y7.heap[b]? = X4.heap[b]? := fun b hno => (y7k b (fun e => by subst e; exact hno _ z5)).trans (Z6.out.2.1 b (fun e => by subst e; exact hno _ z4))
     exact ⟨X1.heap.size, X2.heap.size, a1, c1, a2, c2, a3, c3, _, _, _, _, _, _, _, _, _, _, _, _, _, _, _, _, _, _, _, _, _, _, _, _, _, _, _, _, _, _, _, _, _, _, _, _, _, _, _, rfl, eB, eC, nBC, (y7k _ nBC).trans Z6.out.1, y7B, qK (tagged_of _ _) (by decide) N4.out.2.1 (by omega) (fun b _ _ hno => key b hno) (fun b h _ => h), qK (tagged_of _ _) (by decide) N4.out.2.2.1 (by omega) (fun b _ _ hno => key b hno) (fun b h _ => h), qK (tagged_of _ _) (by decide) N4.out.2.2.2.2.2.2.2.2 (by omega) (fun b _ _ hno => key b hno) (fun b h _ => h), y7b _ eC _ (Z6.out.2.2 _ eB _ N4.out.1)⟩
    exact zO
   exact zO
  refine zN (by simp only [qA, qS, qZ]; rfl) (fun K hK => ?_) ?_
  ·go_simp
   obtain ⟨X2, hX2⟩ : ∃ X, X1.alloc (.cells #[.int .i64 0, .slice none 0 0, .int .i64 0, .slice none 0 0] 60) = X := ⟨_, rfl⟩
   rw [hX2]
   have hst2 : Below X1.heap.size X1 X2 := hX2 ▸ (zE _ _).alloc (zC _) _
   have z2 : X2.heap[X1.heap.size]? = some (.cells #[.int .i64 0, .slice none 0 0, .int .i64 0, .slice none 0 0] 60) := hX2 ▸ qG _ _ rfl
   clear hX2
   have t2_0 := zX N1.out.1 hst2
   have t2_1 := qJ (qC _) N1.out.2.1 hst2
   have t2_2 := qJ (qC _) N1.out.2.2 hst2
   have t2_3 := z2
   have t2_4 := N1.out.1.size
   have N2 := zA (zB t2_0 (zB t2_1 (zB t2_2 (zB t2_3 (t2_4)))))
   refine hK.out _ _ (HS2.out _ N2.out.1) (fun hHeld2 => ?_)
   clear hK K t2_0 t2_1 t2_2 t2_3 t2_4 hHeld1 N1 hst2
   try simp only [zU, qI, qX, qY]
   clear z2
   refine zQ (rs := [3, 4]) (by kernel_rfl) (by simp) ?_
   refine zN (by simp only [qA, qS, qZ]; rfl) (fun K hK => ?_) ?_
   ·go_simp
    refine (HF.out _ (hx2.trans (N2.out.1.mono hsx2))).mono ?_
    rintro e X3 ⟨a'', rfl, hc, hst3⟩
    obtain ⟨a3, c3, rfl⟩ := hc.slice
    have hu := N2.out.1.size
    have t3_0 := zX N2.out.1 hst3
    have t3_1 := qJ (qC _) N2.out.2.1 hst3
    have t3_2 := qJ (qC _) N2.out.2.2.1 hst3
    have t3_3 := zY hst3 N2.out.2.2.2.1
    have t3_4 := N2.out.2.2.2.2
    have t3_5 := qH (qC _) hc (qN _ _) (S' := fun b => w2.heap.size ≤ b) (fun b h _ => zD hu h)
    have N3 := zA (zB t3_0 (zB t3_1 (zB t3_2 (zB t3_3 (zB t3_4 (t3_5))))))
    refine hK.out _ _ (HS2.out _ N3.out.1) (fun hHeld3 => ?_)
    clear hK K t3_0 t3_1 t3_2 t3_3 t3_4 t3_5 hHeld2 N2 hst3
    try simp only [zU, qI, qX, qY]
    clear hc hu
    refine zQ (rs := [4]) (by kernel_rfl) (by simp) ?_
    refine zN (by simp only [qA, qS, qZ]; rfl) (fun K hK => ?_) ?_
    ·go_simp
     obtain ⟨X4, hX4⟩ : ∃ X, X3.alloc (.cells #[.int .i64 0, .slice none 0 0, .int .i64 0, .slice none 0 0] 60) = X := ⟨_, rfl⟩
     rw [hX4]
     have hst4 : Below X3.heap.size X3 X4 := hX4 ▸ (zE _ _).alloc (zC _) _
     have z4 : X4.heap[X3.heap.size]? = some (.cells #[.int .i64 0, .slice none 0 0, .int .i64 0, .slice none 0 0] 60) := hX4 ▸ qG _ _ rfl
     clear hX4
     have t4_0 := zX N3.out.1 hst4
     have t4_1 := qJ (qC _) N3.out.2.1 hst4
     have t4_2 := qJ (qC _) N3.out.2.2.1 hst4
     have t4_3 := zY hst4 N3.out.2.2.2.1
     have t4_4 := N3.out.2.2.2.2.1
     have t4_5 := qJ (qC _) N3.out.2.2.2.2.2 hst4
     have t4_6 := z4
     have t4_7 := N3.out.1.size
     have t4_8 := (zL.1 N3.out.2.2.2.1).1
     have N4 := zA (zB t4_0 (zB t4_1 (zB t4_2 (zB t4_3 (zB t4_4 (zB t4_5 (zB t4_6 (zB t4_7 (t4_8)))))))))
     refine hK.out _ _ (HS2.out _ N4.out.1) (fun hHeld4 => ?_)
     clear hK K t4_0 t4_1 t4_2 t4_3 t4_4 t4_5 t4_6 t4_7 t4_8 hHeld3 N3 hst4
     try simp only [zU, qI, qX, qY]
     clear z4
     have z4 := N4.out.2.2.2.2.2.2.1
     have z5 := N4.out.2.2.2.1
     have eB := N4.out.2.2.2.2.2.2.2.1
     have eC := N4.out.2.2.2.2.1
     have nBC : ¬ X3.heap.size = X1.heap.size := by have := N4.out.2.2.2.2.2.2.2.2; omega
     have nCB : ¬ X1.heap.size = X3.heap.size := fun e => nBC e.symm
     have mB : ¬ X3.heap.size = w.heap.size := by omega
     have mC : ¬ X1.heap.size = w.heap.size := by omega
     obtain ⟨c4, f4⟩ := blk z4
     refine zQ (rs := [6]) (by kernel_rfl) (by simp) ?_
     refine zN (by simp only [qA, qS, qZ]; rfl) (fun K hK => ?_) zO
     go_simp
     obtain ⟨Y6, hY6, y6B, y6z, y6k, y6b⟩ := set_four X4 (X3.heap.size) 60 (.int .i64 0) (.slice none 0 0) (.int .i64 0) (.slice none 0 0) (.int .i64 l.quote) (.slice a1 l.lists.length c1) (.int .i64 l.kind) (.slice a2 l.cells.length c2) z4
     rw [hY6]
     have z5y := (y6k _ nCB).trans z5
     refine hK.out _ _ (HS3.out X4 Y6 N4.out.1 (y6k _ (fun e => mB e.symm))) (fun hHeld => ?_)
     have Z6 := zA (zB y6B (zB y6k y6b))
     obtain ⟨c5, f5⟩ := blk z5y
     clear hK K hY6 c4 f4 y6B y6k y6b
     try simp only [zU, qI, qX, qY]
     refine zQ (rs := [7]) (by kernel_rfl) (by simp) ?_
     refine zN (by simp only [qA, qS, qZ]; rfl) (fun K hK => ?_) zO
     go_simp
     obtain ⟨Y7, hY7, y7B, y7z, y7k, y7b⟩ := set_four Y6 (X1.heap.size) 60 (.int .i64 0) (.slice none 0 0) (.int .i64 0) (.slice none 0 0) (.int .i64 l.quote) (.slice a3 l.lists.length c3) (.int .i64 l.kind) (.slice none 0 0) z5y
     rw [hY7]
     refine hK.out _ _ (HS3.out X4 Y7 N4.out.1 ((y7k _ (fun e => mC e.symm)).trans (Z6.out.2.1 _ (fun e => mB e.symm)))) (fun hHeld => ?_)
     refine wpAnyH_done (by kernel_rfl) ?_ _
     have key : ∀ b : Nat, (∀ cs, X4.heap[b]? ≠ some (.cells cs 60)) → Y7.heap[b]? = X4.heap[b]? := fun b hno => (y7k b (fun e => by subst e; exact hno _ z5)).trans (Z6.out.2.1 b (fun e => by subst e; exact hno _ z4))
     exact ⟨X3.heap.size, X1.heap.size, a1, c1, a2, c2, a3, c3, _, _, _, _, _, _, _, _, _, _, _, _, _, _, _, _, _, _, _, _, _, _, _, _, _, _, _, _, _, _, _, _, _, _, _, _, _, _, _, rfl, eB, eC, nBC, (y7k _ nBC).trans Z6.out.1, y7B, qK (tagged_of _ _) (by decide) N4.out.2.1 (by omega) (fun b _ _ hno => key b hno) (fun b h _ => h), qK (tagged_of _ _) (by decide) N4.out.2.2.1 (by omega) (fun b _ _ hno => key b hno) (fun b h _ => h), qK (tagged_of _ _) (by decide) N4.out.2.2.2.2.2.1 (by omega) (fun b _ _ hno => key b hno) (fun b h _ => h), y7b _ eC _ (Z6.out.2.2 _ eB _ N4.out.1)⟩
    exact zO
   refine zN (by simp only [qA, qS, qZ]; rfl) (fun K hK => ?_) ?_
   ·go_simp
    obtain ⟨X3, hX3⟩ : ∃ X, X2.alloc (.cells #[.int .i64 0, .slice none 0 0, .int .i64 0, .slice none 0 0] 60) = X := ⟨_, rfl⟩
    rw [hX3]
    have hst3 : Below X2.heap.size X2 X3 := hX3 ▸ (zE _ _).alloc (zC _) _
    have z3 : X3.heap[X2.heap.size]? = some (.cells #[.int .i64 0, .slice none 0 0, .int .i64 0, .slice none 0 0] 60) := hX3 ▸ qG _ _ rfl
    clear hX3
    have t3_0 := zX N2.out.1 hst3
    have t3_1 := qJ (qC _) N2.out.2.1 hst3
    have t3_2 := qJ (qC _) N2.out.2.2.1 hst3
    have t3_3 := zY hst3 N2.out.2.2.2.1
    have t3_4 := N2.out.2.2.2.2
    have t3_5 := z3
    have t3_6 := N2.out.1.size
    have t3_7 := (zL.1 N2.out.2.2.2.1).1
    have N3 := zA (zB t3_0 (zB t3_1 (zB t3_2 (zB t3_3 (zB t3_4 (zB t3_5 (zB t3_6 (t3_7))))))))
    refine hK.out _ _ (HS2.out _ N3.out.1) (fun hHeld3 => ?_)
    clear hK K t3_0 t3_1 t3_2 t3_3 t3_4 t3_5 t3_6 t3_7 hHeld2 N2 hst3
    try simp only [zU, qI, qX, qY]
    clear z3
    refine zQ (rs := [3]) (by kernel_rfl) (by simp) ?_
    refine zN (by simp only [qA, qS, qZ]; rfl) (fun K hK => ?_) ?_
    ·go_simp
     refine (HF.out _ (hx2.trans (N3.out.1.mono hsx2))).mono ?_
     rintro e X4 ⟨a'', rfl, hc, hst4⟩
     obtain ⟨a3, c3, rfl⟩ := hc.slice
     have hu := N3.out.1.size
     have t4_0 := zX N3.out.1 hst4
     have t4_1 := qJ (qC _) N3.out.2.1 hst4
     have t4_2 := qJ (qC _) N3.out.2.2.1 hst4
     have t4_3 := zY hst4 N3.out.2.2.2.1
     have t4_4 := N3.out.2.2.2.2.1
     have t4_5 := zY hst4 N3.out.2.2.2.2.2.1
     have t4_6 := N3.out.2.2.2.2.2.2.1
     have t4_7 := N3.out.2.2.2.2.2.2.2
     have t4_8 := qH (qC _) hc (qN _ _) (S' := fun b => w2.heap.size ≤ b) (fun b h _ => zD hu h)
     have N4 := zA (zB t4_0 (zB t4_1 (zB t4_2 (zB t4_3 (zB t4_4 (zB t4_5 (zB t4_6 (zB t4_7 (t4_8)))))))))
     refine hK.out _ _ (HS2.out _ N4.out.1) (fun hHeld4 => ?_)
     clear hK K t4_0 t4_1 t4_2 t4_3 t4_4 t4_5 t4_6 t4_7 t4_8 hHeld3 N3 hst4
     try simp only [zU, qI, qX, qY]
     clear hc hu
     have z4 := N4.out.2.2.2.2.2.1
     have z5 := N4.out.2.2.2.1
     have eB := N4.out.2.2.2.2.2.2.1
     have eC := N4.out.2.2.2.2.1
     have nBC : ¬ X2.heap.size = X1.heap.size := by have := N4.out.2.2.2.2.2.2.2.1; omega
     have nCB : ¬ X1.heap.size = X2.heap.size := fun e => nBC e.symm
     have mB : ¬ X2.heap.size = w.heap.size := by omega
     have mC : ¬ X1.heap.size = w.heap.size := by omega
     obtain ⟨c4, f4⟩ := blk z4
     refine zQ (rs := [6]) (by kernel_rfl) (by simp) ?_
     refine zN (by simp only [qA, qS, qZ]; rfl) (fun K hK => ?_) zO
     go_simp
     obtain ⟨Y6, hY6, y6B, y6z, y6k, y6b⟩ := set_four X4 (X2.heap.size) 60 (.int .i64 0) (.slice none 0 0) (.int .i64 0) (.slice none 0 0) (.int .i64 l.quote) (.slice a1 l.lists.length c1) (.int .i64 l.kind) (.slice a2 l.cells.length c2) z4
     rw [hY6]
     have z5y := (y6k _ nCB).trans z5
     refine hK.out _ _ (HS3.out X4 Y6 N4.out.1 (y6k _ (fun e => mB e.symm))) (fun hHeld => ?_)
     have Z6 := zA (zB y6B (zB y6k y6b))
     obtain ⟨c5, f5⟩ := blk z5y
     clear hK K hY6 c4 f4 y6B y6k y6b
     try simp only [zU, qI, qX, qY]
     refine zQ (rs := [7]) (by kernel_rfl) (by simp) ?_
     refine zN (by simp only [qA, qS, qZ]; rfl) (fun K hK => ?_) zO
     go_simp
     obtain ⟨Y7, hY7, y7B, y7z, y7k, y7b⟩ := set_four Y6 (X1.heap.size) 60 (.int .i64 0) (.slice none 0 0) (.int .i64 0) (.slice none 0 0) (.int .i64 l.quote) (.slice a3 l.lists.length c3) (.int .i64 l.kind) (.slice none 0 0) z5y
     rw [hY7]
     refine hK.out _ _ (HS3.out X4 Y7 N4.out.1 ((y7k _ (fun e => mC e.symm)).trans (Z6.out.2.1 _ (fun e => mB e.symm)))) (fun hHeld => ?_)
     refine wpAnyH_done (by kernel_rfl) ?_ _
     have key : ∀ b : Nat, (∀ cs, X4.heap[b]? ≠ some (.cells cs 60)) → Y7.heap[b]? = X4.heap[b]? := fun b hno => (y7k b (fun e => by subst e; exact hno _ z5)).trans (Z6.out.2.1 b (fun e => by subst e; exact hno _ z4))
     exact ⟨X2.heap.size, X1.heap.size, a1, c1, a2, c2, a3, c3, _, _, _, _, _, _, _, _, _, _, _, _, _, _, _, _, _, _, _, _, _, _, _, _, _, _, _, _, _, _, _, _, _, _, _, _, _, _, _, rfl, eB, eC, nBC, (y7k _ nBC).trans Z6.out.1, y7B, qK (tagged_of _ _) (by decide) N4.out.2.1 (by omega) (fun b _ _ hno => key b hno) (fun b h _ => h), qK (tagged_of _ _) (by decide) N4.out.2.2.1 (by omega) (fun b _ _ hno => key b hno) (fun b h _ => h), qK (tagged_of _ _) (by decide) N4.out.2.2.2.2.2.2.2.2 (by omega) (fun b _ _ hno => key b hno) (fun b h _ => h), y7b _ eC _ (Z6.out.2.2 _ eB _ N4.out.1)⟩
    exact zO
   exact zO
  exact zO
 refine zN (by simp only [qA, qS, qZ]; rfl) (fun K hK => ?_) ?_
 ·go_simp
  obtain ⟨X1, hX1⟩ : ∃ X, X0.alloc (.cells #[.int .i64 0, .slice none 0 0, .int .i64 0, .slice none 0 0] 60) = X := ⟨_, rfl⟩
  rw [hX1]
  have hst1 : Below X0.heap.size X0 X1 := hX1 ▸ (zE _ _).alloc (zC _) _
  have z1 : X1.heap[X0.heap.size]? = some (.cells #[.int .i64 0, .slice none 0 0, .int .i64 0, .slice none 0 0] 60) := hX1 ▸ qG _ _ rfl
  clear hX1
  have t1_0 := zX N0.out hst1
  have t1_1 := z1
  have t1_2 := N0.out.size
  have N1 := zA (zB t1_0 (zB t1_1 (t1_2)))
  refine hK.out _ _ (HS2.out _ N1.out.1) (fun hHeld1 => ?_)
  clear hK K t1_0 t1_1 t1_2 hHeld N0 hst1
  try simp only [zU, qI, qX, qY]
  clear z1
  refine zQ (rs := [1, 5]) (by kernel_rfl) (by simp) ?_
  refine zN (by simp only [qA, qS, qZ]; rfl) (fun K hK => ?_) ?_
  ·go_simp
   refine (HO.out _ (hx2.trans (N1.out.1.mono hsx2))).mono ?_
   rintro e X2 ⟨a', b', rfl, ha, hb, hst2⟩
   obtain ⟨a1, c1, rfl⟩ := ha.slice
   obtain ⟨a2, c2, rfl⟩ := hb.slice
   have hu := N1.out.1.size
   have t2_0 := zX N1.out.1 hst2
   have t2_1 := zY hst2 N1.out.2.1
   have t2_2 := N1.out.2.2
   have t2_3 := qH (qC _) ha (qN _ _) (S' := fun b => w2.heap.size ≤ b) (fun b h _ => zD hu h)
   have t2_4 := qH (qC _) hb (qN _ _) (S' := fun b => w2.heap.size ≤ b) (fun b h _ => zD hu h)
   have N2 := zA (zB t2_0 (zB t2_1 (zB t2_2 (zB t2_3 (t2_4)))))
   refine hK.out _ _ (HS2.out _ N2.out.1) (fun hHeld2 => ?_)
   clear hK K t2_0 t2_1 t2_2 t2_3 t2_4 hHeld1 N1 hst2
   try simp only [zU, qI, qX, qY]
   clear ha hb hu
   refine zQ (rs := [3, 5]) (by kernel_rfl) (by simp) ?_
   refine zN (by simp only [qA, qS, qZ]; rfl) (fun K hK => ?_) ?_
   ·go_simp
    refine (HF.out _ (hx2.trans (N2.out.1.mono hsx2))).mono ?_
    rintro e X3 ⟨a'', rfl, hc, hst3⟩
    obtain ⟨a3, c3, rfl⟩ := hc.slice
    have hu := N2.out.1.size
    have t3_0 := zX N2.out.1 hst3
    have t3_1 := zY hst3 N2.out.2.1
    have t3_2 := N2.out.2.2.1
    have t3_3 := qJ (qC _) N2.out.2.2.2.1 hst3
    have t3_4 := qJ (qC _) N2.out.2.2.2.2 hst3
    have t3_5 := qH (qC _) hc (qN _ _) (S' := fun b => w2.heap.size ≤ b) (fun b h _ => zD hu h)
    have N3 := zA (zB t3_0 (zB t3_1 (zB t3_2 (zB t3_3 (zB t3_4 (t3_5))))))
    refine hK.out _ _ (HS2.out _ N3.out.1) (fun hHeld3 => ?_)
    clear hK K t3_0 t3_1 t3_2 t3_3 t3_4 t3_5 hHeld2 N2 hst3
    try simp only [zU, qI, qX, qY]
    clear hc hu
    refine zQ (rs := [5]) (by kernel_rfl) (by simp) ?_
    refine zN (by simp only [qA, qS, qZ]; rfl) (fun K hK => ?_) ?_
    ·go_simp
     obtain ⟨X4, hX4⟩ : ∃ X, X3.alloc (.cells #[.int .i64 0, .slice none 0 0, .int .i64 0, .slice none 0 0] 60) = X := ⟨_, rfl⟩
     rw [hX4]
     have hst4 : Below X3.heap.size X3 X4 := hX4 ▸ (zE _ _).alloc (zC _) _
     have z4 : X4.heap[X3.heap.size]? = some (.cells #[.int .i64 0, .slice none 0 0, .int .i64 0, .slice none 0 0] 60) := hX4 ▸ qG _ _ rfl
     clear hX4
     have t4_0 := zX N3.out.1 hst4
     have t4_1 := zY hst4 N3.out.2.1
     have t4_2 := N3.out.2.2.1
     have t4_3 := qJ (qC _) N3.out.2.2.2.1 hst4
     have t4_4 := qJ (qC _) N3.out.2.2.2.2.1 hst4
     have t4_5 := qJ (qC _) N3.out.2.2.2.2.2 hst4
     have t4_6 := z4
     have t4_7 := N3.out.1.size
     have t4_8 := (zL.1 N3.out.2.1).1
     have N4 := zA (zB t4_0 (zB t4_1 (zB t4_2 (zB t4_3 (zB t4_4 (zB t4_5 (zB t4_6 (zB t4_7 (t4_8)))))))))
     refine hK.out _ _ (HS2.out _ N4.out.1) (fun hHeld4 => ?_)
     clear hK K t4_0 t4_1 t4_2 t4_3 t4_4 t4_5 t4_6 t4_7 t4_8 hHeld3 N3 hst4
     try simp only [zU, qI, qX, qY]
     clear z4
     have z4 := N4.out.2.1
     have z5 := N4.out.2.2.2.2.2.2.1
     have eB := N4.out.2.2.1
     have eC := N4.out.2.2.2.2.2.2.2.1
     have nBC : ¬ X0.heap.size = X3.heap.size := by have := N4.out.2.2.2.2.2.2.2.2; omega
     have nCB : ¬ X3.heap.size = X0.heap.size := fun e => nBC e.symm
     have mB : ¬ X0.heap.size = w.heap.size := by omega
     have mC : ¬ X3.heap.size = w.heap.size := by omega
     obtain ⟨c4, f4⟩ := blk z4
     refine zQ (rs := [6]) (by kernel_rfl) (by simp) ?_
     refine zN (by simp only [qA, qS, qZ]; rfl) (fun K hK => ?_) zO
     go_simp
     obtain ⟨Y6, hY6, y6B, y6z, y6k, y6b⟩ := set_four X4 (X0.heap.size) 60 (.int .i64 0) (.slice none 0 0) (.int .i64 0) (.slice none 0 0) (.int .i64 l.quote) (.slice a1 l.lists.length c1) (.int .i64 l.kind) (.slice a2 l.cells.length c2) z4
     rw [hY6]
     have z5y := (y6k _ nCB).trans z5
     refine hK.out _ _ (HS3.out X4 Y6 N4.out.1 (y6k _ (fun e => mB e.symm))) (fun hHeld => ?_)
     have Z6 := zA (zB y6B (zB y6k y6b))
     obtain ⟨c5, f5⟩ := blk z5y
     clear hK K hY6 c4 f4 y6B y6k y6b
     try simp only [zU, qI, qX, qY]
     refine zQ (rs := [7]) (by kernel_rfl) (by simp) ?_
     refine zN (by simp only [qA, qS, qZ]; rfl) (fun K hK => ?_) zO
     go_simp
     obtain ⟨Y7, hY7, y7B, y7z, y7k, y7b⟩ := set_four Y6 (X3.heap.size) 60 (.int .i64 0) (.slice none 0 0) (.int .i64 0) (.slice none 0 0) (.int .i64 l.quote) (.slice a3 l.lists.length c3) (.int .i64 l.kind) (.slice none 0 0) z5y
     rw [hY7]
     refine hK.out _ _ (HS3.out X4 Y7 N4.out.1 ((y7k _ (fun e => mC e.symm)).trans (Z6.out.2.1 _ (fun e => mB e.symm)))) (fun hHeld => ?_)
     refine wpAnyH_done (by kernel_rfl) ?_ _
     have key : ∀ b : Nat, (∀ cs, X4.heap[b]? ≠ some (.cells cs 60)) → Y7.heap[b]? = X4.heap[b]? := fun b hno => (y7k b (fun e => by subst e; exact hno _ z5)).trans (Z6.out.2.1 b (fun e => by subst e; exact hno _ z4))
     exact ⟨X0.heap.size, X3.heap.size, a1, c1, a2, c2, a3, c3, _, _, _, _, _, _, _, _, _, _, _, _, _, _, _, _, _, _, _, _, _, _, _, _, _, _, _, _, _, _, _, _, _, _, _, _, _, _, _, rfl, eB, eC, nBC, (y7k _ nBC).trans Z6.out.1, y7B, qK (tagged_of _ _) (by decide) N4.out.2.2.2.1 (by omega) (fun b _ _ hno => key b hno) (fun b h _ => h), qK (tagged_of _ _) (by decide) N4.out.2.2.2.2.1 (by omega) (fun b _ _ hno => key b hno) (fun b h _ => h), qK (tagged_of _ _) (by decide) N4.out.2.2.2.2.2.1 (by omega) (fun b _ _ hno => key b hno) (fun b h _ => h), y7b _ eC _ (Z6.out.2.2 _ eB _ N4.out.1)⟩
    exact zO
   refine zN (by simp only [qA, qS, qZ]; rfl) (fun K hK => ?_) ?_
   ·go_simp
    obtain ⟨X3, hX3⟩ : ∃ X, X2.alloc (.cells #[.int .i64 0, .slice none 0 0, .int .i64 0, .slice none 0 0] 60) = X := ⟨_, rfl⟩
    rw [hX3]
    have hst3 : Below X2.heap.size X2 X3 := hX3 ▸ (zE _ _).alloc (zC _) _
    have z3 : X3.heap[X2.heap.size]? = some (.cells #[.int .i64 0, .slice none 0 0, .int .i64 0, .slice none 0 0] 60) := hX3 ▸ qG _ _ rfl
    clear hX3
    have t3_0 := zX N2.out.1 hst3
    have t3_1 := zY hst3 N2.out.2.1
    have t3_2 := N2.out.2.2.1
    have t3_3 := qJ (qC _) N2.out.2.2.2.1 hst3
    have t3_4 := qJ (qC _) N2.out.2.2.2.2 hst3
    have t3_5 := z3
    have t3_6 := N2.out.1.size
    have t3_7 := (zL.1 N2.out.2.1).1
    have N3 := zA (zB t3_0 (zB t3_1 (zB t3_2 (zB t3_3 (zB t3_4 (zB t3_5 (zB t3_6 (t3_7))))))))
    refine hK.out _ _ (HS2.out _ N3.out.1) (fun hHeld3 => ?_)
    clear hK K t3_0 t3_1 t3_2 t3_3 t3_4 t3_5 t3_6 t3_7 hHeld2 N2 hst3
    try simp only [zU, qI, qX, qY]
    clear z3
    refine zQ (rs := [3]) (by kernel_rfl) (by simp) ?_
    refine zN (by simp only [qA, qS, qZ]; rfl) (fun K hK => ?_) ?_
    ·go_simp
     refine (HF.out _ (hx2.trans (N3.out.1.mono hsx2))).mono ?_
     rintro e X4 ⟨a'', rfl, hc, hst4⟩
     obtain ⟨a3, c3, rfl⟩ := hc.slice
     have hu := N3.out.1.size
     have t4_0 := zX N3.out.1 hst4
     have t4_1 := zY hst4 N3.out.2.1
     have t4_2 := N3.out.2.2.1
     have t4_3 := qJ (qC _) N3.out.2.2.2.1 hst4
     have t4_4 := qJ (qC _) N3.out.2.2.2.2.1 hst4
     have t4_5 := zY hst4 N3.out.2.2.2.2.2.1
     have t4_6 := N3.out.2.2.2.2.2.2.1
     have t4_7 := N3.out.2.2.2.2.2.2.2
     have t4_8 := qH (qC _) hc (qN _ _) (S' := fun b => w2.heap.size ≤ b) (fun b h _ => zD hu h)
     have N4 := zA (zB t4_0 (zB t4_1 (zB t4_2 (zB t4_3 (zB t4_4 (zB t4_5 (zB t4_6 (zB t4_7 (t4_8)))))))))
     refine hK.out _ _ (HS2.out _ N4.out.1) (fun hHeld4 => ?_)
     clear hK K t4_0 t4_1 t4_2 t4_3 t4_4 t4_5 t4_6 t4_7 t4_8 hHeld3 N3 hst4
     try simp only [zU, qI, qX, qY]
     clear hc hu
     have z4 := N4.out.2.1
     have z5 := N4.out.2.2.2.2.2.1
     have eB := N4.out.2.2.1
     have eC := N4.out.2.2.2.2.2.2.1
     have nBC : ¬ X0.heap.size = X2.heap.size := by have := N4.out.2.2.2.2.2.2.2.1; omega
     have nCB : ¬ X2.heap.size = X0.heap.size := fun e => nBC e.symm
     have mB : ¬ X0.heap.size = w.heap.size := by omega
     have mC : ¬ X2.heap.size = w.heap.size := by omega
     obtain ⟨c4, f4⟩ := blk z4
     refine zQ (rs := [6]) (by kernel_rfl) (by simp) ?_
     refine zN (by simp only [qA, qS, qZ]; rfl) (fun K hK => ?_) zO
     go_simp
     obtain ⟨Y6, hY6, y6B, y6z, y6k, y6b⟩ := set_four X4 (X0.heap.size) 60 (.int .i64 0) (.slice none 0 0) (.int .i64 0) (.slice none 0 0) (.int .i64 l.quote) (.slice a1 l.lists.length c1) (.int .i64 l.kind) (.slice a2 l.cells.length c2) z4
     rw [hY6]
     have z5y := (y6k _ nCB).trans z5
     refine hK.out _ _ (HS3.out X4 Y6 N4.out.1 (y6k _ (fun e => mB e.symm))) (fun hHeld => ?_)
     have Z6 := zA (zB y6B (zB y6k y6b))
     obtain ⟨c5, f5⟩ := blk z5y
     clear hK K hY6 c4 f4 y6B y6k y6b
     try simp only [zU, qI, qX, qY]
     refine zQ (rs := [7]) (by kernel_rfl) (by simp) ?_
     refine zN (by simp only [qA, qS, qZ]; rfl) (fun K hK => ?_) zO
     go_simp
     obtain ⟨Y7, hY7, y7B, y7z, y7k, y7b⟩ := set_four Y6 (X2.heap.size) 60 (.int .i64 0) (.slice none 0 0) (.int .i64 0) (.slice none 0 0) (.int .i64 l.quote) (.slice a3 l.lists.length c3) (.int .i64 l.kind) (.slice none 0 0) z5y
     rw [hY7]
     refine hK.out _ _ (HS3.out X4 Y7 N4.out.1 ((y7k _ (fun e => mC e.symm)).trans (Z6.out.2.1 _ (fun e => mB e.symm)))) (fun hHeld => ?_)
     refine wpAnyH_done (by kernel_rfl) ?_ _
     have key : ∀ b : Nat, (∀ cs, X4.heap[b]? ≠ some (.cells cs 60)) → Y7.heap[b]? = X4.heap[b]? := fun b hno => (y7k b (fun e => by subst e; exact hno _ z5)).trans (Z6.out.2.1 b (fun e => by subst e; exact hno _ z4))
     exact ⟨X0.heap.size, X2.heap.size, a1, c1, a2, c2, a3, c3, _, _, _, _, _, _, _, _, _, _, _, _, _, _, _, _, _, _, _, _, _, _, _, _, _, _, _, _, _, _, _, _, _, _, _, _, _, _, _, rfl, eB, eC, nBC, (y7k _ nBC).trans Z6.out.1, y7B, qK (tagged_of _ _) (by decide) N4.out.2.2.2.1 (by omega) (fun b _ _ hno => key b hno) (fun b h _ => h), qK (tagged_of _ _) (by decide) N4.out.2.2.2.2.1 (by omega) (fun b _ _ hno => key b hno) (fun b h _ => h), qK (tagged_of _ _) (by decide) N4.out.2.2.2.2.2.2.2.2 (by omega) (fun b _ _ hno => key b hno) (fun b h _ => h), y7b _ eC _ (Z6.out.2.2 _ eB _ N4.out.1)⟩
    exact zO
   exact zO
  refine zN (by simp only [qA, qS, qZ]; rfl) (fun K hK => ?_) ?_
  ·go_simp
   obtain ⟨X2, hX2⟩ : ∃ X, X1.alloc (.cells #[.int .i64 0, .slice none 0 0, .int .i64 0, .slice none 0 0] 60) = X := ⟨_, rfl⟩
   rw [hX2]
   have hst2 : Below X1.heap.size X1 X2 := hX2 ▸ (zE _ _).alloc (zC _) _
   have z2 : X2.heap[X1.heap.size]? = some (.cells #[.int .i64 0, .slice none 0 0, .int .i64 0, .slice none 0 0] 60) := hX2 ▸ qG _ _ rfl
   clear hX2
   have t2_0 := zX N1.out.1 hst2
   have t2_1 := zY hst2 N1.out.2.1
   have t2_2 := N1.out.2.2
   have t2_3 := z2
   have t2_4 := N1.out.1.size
   have t2_5 := (zL.1 N1.out.2.1).1
   have N2 := zA (zB t2_0 (zB t2_1 (zB t2_2 (zB t2_3 (zB t2_4 (t2_5))))))
   refine hK.out _ _ (HS2.out _ N2.out.1) (fun hHeld2 => ?_)
   clear hK K t2_0 t2_1 t2_2 t2_3 t2_4 t2_5 hHeld1 N1 hst2
   try simp only [zU, qI, qX, qY]
   clear z2
   refine zQ (rs := [1]) (by kernel_rfl) (by simp) ?_
   refine zN (by simp only [qA, qS, qZ]; rfl) (fun K hK => ?_) ?_
   ·go_simp
    refine (HO.out _ (hx2.trans (N2.out.1.mono hsx2))).mono ?_
    rintro e X3 ⟨a', b', rfl, ha, hb, hst3⟩
    obtain ⟨a1, c1, rfl⟩ := ha.slice
    obtain ⟨a2, c2, rfl⟩ := hb.slice
    have hu := N2.out.1.size
    have t3_0 := zX N2.out.1 hst3
    have t3_1 := zY hst3 N2.out.2.1
    have t3_2 := N2.out.2.2.1
    have t3_3 := zY hst3 N2.out.2.2.2.1
    have t3_4 := N2.out.2.2.2.2.1
    have t3_5 := N2.out.2.2.2.2.2
    have t3_6 := qH (qC _) ha (qN _ _) (S' := fun b => w2.heap.size ≤ b) (fun b h _ => zD hu h)
    have t3_7 := qH (qC _) hb (qN _ _) (S' := fun b => w2.heap.size ≤ b) (fun b h _ => zD hu h)
    have N3 := zA (zB t3_0 (zB t3_1 (zB t3_2 (zB t3_3 (zB t3_4 (zB t3_5 (zB t3_6 (t3_7))))))))
    refine hK.out _ _ (HS2.out _ N3.out.1) (fun hHeld3 => ?_)
    clear hK K t3_0 t3_1 t3_2 t3_3 t3_4 t3_5 t3_6 t3_7 hHeld2 N2 hst3
    try simp only [zU, qI, qX, qY]
    clear ha hb hu
    refine zQ (rs := [3]) (by kernel_rfl) (by simp) ?_
    refine zN (by simp only [qA, qS, qZ]; rfl) (fun K hK => ?_) ?_
    ·go_simp
     refine (HF.out _ (hx2.trans (N3.out.1.mono hsx2))).mono ?_
     rintro e X4 ⟨a'', rfl, hc, hst4⟩
     obtain ⟨a3, c3, rfl⟩ := hc.slice
     have hu := N3.out.1.size
     have t4_0 := zX N3.out.1 hst4
     have t4_1 := zY hst4 N3.out.2.1
     have t4_2 := N3.out.2.2.1
     have t4_3 := zY hst4 N3.out.2.2.2.1
     have t4_4 := N3.out.2.2.2.2.1
     have t4_5 := N3.out.2.2.2.2.2.1
     have t4_6 := qJ (qC _) N3.out.2.2.2.2.2.2.1 hst4
     have t4_7 := qJ (qC _) N3.out.2.2.2.2.2.2.2 hst4
     have t4_8 := qH (qC _) hc (qN _ _) (S' := fun b => w2.heap.size ≤ b) (fun b h _ => zD hu h)
     have N4 := zA (zB t4_0 (zB t4_1 (zB t4_2 (zB t4_3 (zB t4_4 (zB t4_5 (zB t4_6 (zB t4_7 (t4_8)))))))))
     refine hK.out _ _ (HS2.out _ N4.out.1) (fun hHeld4 => ?_)
     clear hK K t4_0 t4_1 t4_2 t4_3 t4_4 t4_5 t4_6 t4_7 t4_8 hHeld3 N3 hst4
     try simp only [zU, qI, qX, qY]
     clear hc hu
     have z4 := N4.out.2.1
     have z5 := N4.out.2.2.2.1
     have eB := N4.out.2.2.1
     have eC := N4.out.2.2.2.2.1
     have nBC : ¬ X0.heap.size = X1.heap.size := by have := N4.out.2.2.2.2.2.1; omega
     have nCB : ¬ X1.heap.size = X0.heap.size := fun e => nBC e.symm
     have mB : ¬ X0.heap.size = w.heap.size := by omega
     have mC : ¬ X1.heap.size = w.heap.size := by omega
     obtain ⟨c4, f4⟩ := blk z4
     refine zQ (rs := [6]) (by kernel_rfl) (by simp) ?_
     refine zN (by simp only [qA, qS, qZ]; rfl) (fun K hK => ?_) zO
     go_simp
     obtain ⟨Y6, hY6, y6B, y6z, y6k, y6b⟩ := set_four X4 (X0.heap.size) 60 (.int .i64 0) (.slice none 0 0) (.int .i64 0) (.slice none 0 0) (.int .i64 l.quote) (.slice a1 l.lists.length c1) (.int .i64 l.kind) (.slice a2 l.cells.length c2) z4
     rw [hY6]
     have z5y := (y6k _ nCB).trans z5
     refine hK.out _ _ (HS3.out X4 Y6 N4.out.1 (y6k _ (fun e => mB e.symm))) (fun hHeld => ?_)
     have Z6 := zA (zB y6B (zB y6k y6b))
     obtain ⟨c5, f5⟩ := blk z5y
     clear hK K hY6 c4 f4 y6B y6k y6b
     try simp only [zU, qI, qX, qY]
     refine zQ (rs := [7]) (by kernel_rfl) (by simp) ?_
     refine zN (by simp only [qA, qS, qZ]; rfl) (fun K hK => ?_) zO
     go_simp
     obtain ⟨Y7, hY7, y7B, y7z, y7k, y7b⟩ := set_four Y6 (X1.heap.size) 60 (.int .i64 0) (.slice none 0 0) (.int .i64 0) (.slice none 0 0) (.int .i64 l.quote) (.slice a3 l.lists.length c3) (.int .i64 l.kind) (.slice none 0 0) z5y
     rw [hY7]
     refine hK.out _ _ (HS3.out X4 Y7 N4.out.1 ((y7k _ (fun e => mC e.symm)).trans (Z6.out.2.1 _ (fun e => mB e.symm)))) (fun hHeld => ?_)
     refine wpAnyH_done (by kernel_rfl) ?_ _
     have key : ∀ b : Nat, (∀ cs, X4.heap[b]? ≠ some (.cells cs 60)) → Y7.heap[b]? = X4.heap[b]? := fun b hno => (y7k b (fun e => by subst e; exact hno _ z5)).trans (Z6.out.2.1 b (fun e => by subst e; exact hno _ z4))
     exact ⟨X0.heap.size, X1.heap.size, a1, c1, a2, c2, a3, c3, _, _, _, _, _, _, _, _, _, _, _, _, _, _, _, _, _, _, _, _, _, _, _, _, _, _, _, _, _, _, _, _, _, _, _, _, _, _, _, rfl, eB, eC, nBC, (y7k _ nBC).trans Z6.out.1, y7B, qK (tagged_of _ _) (by decide) N4.out.2.2.2.2.2.2.1 (by omega) (fun b _ _ hno => key b hno) (fun b h _ => h), qK (tagged_of _ _) (by decide) N4.out.2.2.2.2.2.2.2.1 (by omega) (fun b _ _ hno => key b hno) (fun b h _ => h), qK (tagged_of _ _) (by decide) N4.out.2.2.2.2.2.2.2.2 (by omega) (fun b _ _ hno => key b hno) (fun b h _ => h), y7b _ eC _ (Z6.out.2.2 _ eB _ N4.out.1)⟩
    exact zO
   exact zO
  exact zO
 refine zN (by simp only [qA, qS, qZ]; rfl) (fun K hK => ?_) ?_
 ·go_simp
  obtain ⟨X1, hX1⟩ : ∃ X, X0.alloc (.cells #[.int .i64 0, .slice none 0 0, .int .i64 0, .slice none 0 0] 60) = X := ⟨_, rfl⟩
  rw [hX1]
  have hst1 : Below X0.heap.size X0 X1 := hX1 ▸ (zE _ _).alloc (zC _) _
  have z1 : X1.heap[X0.heap.size]? = some (.cells #[.int .i64 0, .slice none 0 0, .int .i64 0, .slice none 0 0] 60) := hX1 ▸ qG _ _ rfl
  clear hX1
  have t1_0 := zX N0.out hst1
  have t1_1 := z1
  have t1_2 := N0.out.size
  have N1 := zA (zB t1_0 (zB t1_1 (t1_2)))
  refine hK.out _ _ (HS2.out _ N1.out.1) (fun hHeld1 => ?_)
  clear hK K t1_0 t1_1 t1_2 hHeld N0 hst1
  try simp only [zU, qI, qX, qY]
  clear z1
  refine zQ (rs := [1, 4]) (by kernel_rfl) (by simp) ?_
  refine zN (by simp only [qA, qS, qZ]; rfl) (fun K hK => ?_) ?_
  ·go_simp
   refine (HO.out _ (hx2.trans (N1.out.1.mono hsx2))).mono ?_
   rintro e X2 ⟨a', b', rfl, ha, hb, hst2⟩
   obtain ⟨a1, c1, rfl⟩ := ha.slice
   obtain ⟨a2, c2, rfl⟩ := hb.slice
   have hu := N1.out.1.size
   have t2_0 := zX N1.out.1 hst2
   have t2_1 := zY hst2 N1.out.2.1
   have t2_2 := N1.out.2.2
   have t2_3 := qH (qC _) ha (qN _ _) (S' := fun b => w2.heap.size ≤ b) (fun b h _ => zD hu h)
   have t2_4 := qH (qC _) hb (qN _ _) (S' := fun b => w2.heap.size ≤ b) (fun b h _ => zD hu h)
   have N2 := zA (zB t2_0 (zB t2_1 (zB t2_2 (zB t2_3 (t2_4)))))
   refine hK.out _ _ (HS2.out _ N2.out.1) (fun hHeld2 => ?_)
   clear hK K t2_0 t2_1 t2_2 t2_3 t2_4 hHeld1 N1 hst2
   try simp only [zU, qI, qX, qY]
   clear ha hb hu
   refine zQ (rs := [3, 4]) (by kernel_rfl) (by simp) ?_
   refine zN (by simp only [qA, qS, qZ]; rfl) (fun K hK => ?_) ?_
   ·go_simp
    refine (HF.out _ (hx2.trans (N2.out.1.mono hsx2))).mono ?_
    rintro e X3 ⟨a'', rfl, hc, hst3⟩
    obtain ⟨a3, c3, rfl⟩ := hc.slice
    have hu := N2.out.1.size
    have t3_0 := zX N2.out.1 hst3
    have t3_1 := zY hst3 N2.out.2.1
    have t3_2 := N2.out.2.2.1
    have t3_3 := qJ (qC _) N2.out.2.2.2.1 hst3
    have t3_4 := qJ (qC _) N2.out.2.2.2.2 hst3
    have t3_5 := qH (qC _) hc (qN _ _) (S' := fun b => w2.heap.size ≤ b) (fun b h _ => zD hu h)
    have N3 := zA (zB t3_0 (zB t3_1 (zB t3_2 (zB t3_3 (zB t3_4 (t3_5))))))
    refine hK.out _ _ (HS2.out _ N3.out.1) (fun hHeld3 => ?_)
    clear hK K t3_0 t3_1 t3_2 t3_3 t3_4 t3_5 hHeld2 N2 hst3
    try simp only [zU, qI, qX, qY]
    clear hc hu
    refine zQ (rs := [4]) (by kernel_rfl) (by simp) ?_
    refine zN (by simp only [qA, qS, qZ]; rfl) (fun K hK => ?_) ?_
    ·go_simp
     obtain ⟨X4, hX4⟩ : ∃ X, X3.alloc (.cells #[.int .i64 0, .slice none 0 0, .int .i64 0, .slice none 0 0] 60) = X := ⟨_, rfl⟩
     rw [hX4]
     have hst4 : Below X3.heap.size X3 X4 := hX4 ▸ (zE _ _).alloc (zC _) _
     have z4 : X4.heap[X3.heap.size]? = some (.cells #[.int .i64 0, .slice none 0 0, .int .i64 0, .slice none 0 0] 60) := hX4 ▸ qG _ _ rfl
     clear hX4
     have t4_0 := zX N3.out.1 hst4
     have t4_1 := zY hst4 N3.out.2.1
     have t4_2 := N3.out.2.2.1
     have t4_3 := qJ (qC _) N3.out.2.2.2.1 hst4
     have t4_4 := qJ (qC _) N3.out.2.2.2.2.1 hst4
     have t4_5 := qJ (qC _) N3.out.2.2.2.2.2 hst4
     have t4_6 := z4
     have t4_7 := N3.out.1.size
     have t4_8 := (zL.1 N3.out.2.1).1
     have N4 := zA (zB t4_0 (zB t4_1 (zB t4_2 (zB t4_3 (zB t4_4 (zB t4_5 (zB t4_6 (zB t4_7 (t4_8)))))))))
     refine hK.out _ _ (HS2.out _ N4.out.1) (fun hHeld4 => ?_)
     clear hK K t4_0 t4_1 t4_2 t4_3 t4_4 t4_5 t4_6 t4_7 t4_8 hHeld3 N3 hst4
     try simp only [zU, qI, qX, qY]
     clear z4
     have z4 := N4.out.2.2.2.2.2.2.1
     have z5 := N4.out.2.1
     have eB := N4.out.2.2.2.2.2.2.2.1
     have eC := N4.out.2.2.1
     have nBC : ¬ X3.heap.size = X0.heap.size := by have := N4.out.2.2.2.2.2.2.2.2; omega
     have nCB : ¬ X0.heap.size = X3.heap.size := fun e => nBC e.symm
     have mB : ¬ X3.heap.size = w.heap.size := by omega
     have mC : ¬ X0.heap.size = w.heap.size := by omega
     obtain ⟨c4, f4⟩ := blk z4
     refine zQ (rs := [6]) (by kernel_rfl) (by simp) ?_
     refine zN (by simp only [qA, qS, qZ]; rfl) (fun K hK => ?_) zO
     go_simp
     obtain ⟨Y6, hY6, y6B, y6z, y6k, y6b⟩ := set_four X4 (X3.heap.size) 60 (.int .i64 0) (.slice none 0 0) (.int .i64 0) (.slice none 0 0) (.int .i64 l.quote) (.slice a1 l.lists.length c1) (.int .i64 l.kind) (.slice a2 l.cells.length c2) z4
     rw [hY6]
     have z5y := (y6k _ nCB).trans z5
     refine hK.out _ _ (HS3.out X4 Y6 N4.out.1 (y6k _ (fun e => mB e.symm))) (fun hHeld => ?_)
     have Z6 := zA (zB y6B (zB y6k y6b))
     obtain ⟨c5, f5⟩ := blk z5y
     clear hK K hY6 c4 f4 y6B y6k y6b
     try simp only [zU, qI, qX, qY]
     refine zQ (rs := [7]) (by kernel_rfl) (by simp) ?_
     refine zN (by simp only [qA, qS, qZ]; rfl) (fun K hK => ?_) zO
     go_simp
     obtain ⟨Y7, hY7, y7B, y7z, y7k, y7b⟩ := set_four Y6 (X0.heap.size) 60 (.int .i64 0) (.slice none 0 0) (.int .i64 0) (.slice none 0 0) (.int .i64 l.quote) (.slice a3 l.lists.length c3) (.int .i64 l.kind) (.slice none 0 0) z5y
     rw [hY7]
     refine hK.out _ _ (HS3.out X4 Y7 N4.out.1 ((y7k _ (fun e => mC e.symm)).trans (Z6.out.2.1 _ (fun e => mB e.symm)))) (fun hHeld => ?_)
     refine wpAnyH_done (by kernel_rfl) ?_ _
     have key : ∀ b : Nat, (∀ cs, X4.heap[b]? ≠ some (.cells cs 60)) → Y7.heap[b]? = X4.heap[b]? := fun b hno => (y7k b (fun e => by subst e; exact hno _ z5)).trans (Z6.out.2.1 b (fun e => by subst e; exact hno _ z4))
     exact ⟨X3.heap.size, X0.heap.size, a1, c1, a2, c2, a3, c3, _, _, _, _, _, _, _, _, _, _, _, _, _, _, _, _, _, _, _, _, _, _, _, _, _, _, _, _, _, _, _, _, _, _, _, _, _, _, _, rfl, eB, eC, nBC, (y7k _ nBC).trans Z6.out.1, y7B, qK (tagged_of _ _) (by decide) N4.out.2.2.2.1 (by omega) (fun b _ _ hno => key b hno) (fun b h _ => h), qK (tagged_of _ _) (by decide) N4.out.2.2.2.2.1 (by omega) (fun b _ _ hno => key b hno) (fun b h _ => h), qK (tagged_of _ _) (by decide) N4.out.2.2.2.2.2.1 (by omega) (fun b _ _ hno => key b hno) (fun b h _ => h), y7b _ eC _ (Z6.out.2.2 _ eB _ N4.out.1)⟩
    exact zO
   refine zN (by simp only [qA, qS, qZ]; rfl) (fun K hK => ?_) ?_
   ·go_simp
    obtain ⟨X3, hX3⟩ : ∃ X, X2.alloc (.cells #[.int .i64 0, .slice none 0 0, .int .i64 0, .slice none 0 0] 60) = X := ⟨_, rfl⟩
    rw [hX3]
    have hst3 : Below X2.heap.size X2 X3 := hX3 ▸ (zE _ _).alloc (zC _) _
    have z3 : X3.heap[X2.heap.size]? = some (.cells #[.int .i64 0, .slice none 0 0, .int .i64 0, .slice none 0 0] 60) := hX3 ▸ qG _ _ rfl
    clear hX3
    have t3_0 := zX N2.out.1 hst3
    have t3_1 := zY hst3 N2.out.2.1
    have t3_2 := N2.out.2.2.1
    have t3_3 := qJ (qC _) N2.out.2.2.2.1 hst3
    have t3_4 := qJ (qC _) N2.out.2.2.2.2 hst3
    have t3_5 := z3
    have t3_6 := N2.out.1.size
    have t3_7 := (zL.1 N2.out.2.1).1
    have N3 := zA (zB t3_0 (zB t3_1 (zB t3_2 (zB t3_3 (zB t3_4 (zB t3_5 (zB t3_6 (t3_7))))))))
    refine hK.out _ _ (HS2.out _ N3.out.1) (fun hHeld3 => ?_)
    clear hK K t3_0 t3_1 t3_2 t3_3 t3_4 t3_5 t3_6 t3_7 hHeld2 N2 hst3
    try simp only [zU, qI, qX, qY]
    clear z3
    refine zQ (rs := [3]) (by kernel_rfl) (by simp) ?_
    refine zN (by simp only [qA, qS, qZ]; rfl) (fun K hK => ?_) ?_
    ·go_simp
     refine (HF.out _ (hx2.trans (N3.out.1.mono hsx2))).mono ?_
     rintro e X4 ⟨a'', rfl, hc, hst4⟩
     obtain ⟨a3, c3, rfl⟩ := hc.slice
     have hu := N3.out.1.size
     have t4_0 := zX N3.out.1 hst4
     have t4_1 := zY hst4 N3.out.2.1
     have t4_2 := N3.out.2.2.1
     have t4_3 := qJ (qC _) N3.out.2.2.2.1 hst4
     have t4_4 := qJ (qC _) N3.out.2.2.2.2.1 hst4
     have t4_5 := zY hst4 N3.out.2.2.2.2.2.1
     have t4_6 := N3.out.2.2.2.2.2.2.1
     have t4_7 := N3.out.2.2.2.2.2.2.2
     have t4_8 := qH (qC _) hc (qN _ _) (S' := fun b => w2.heap.size ≤ b) (fun b h _ => zD hu h)
     have N4 := zA (zB t4_0 (zB t4_1 (zB t4_2 (zB t4_3 (zB t4_4 (zB t4_5 (zB t4_6 (zB t4_7 (t4_8)))))))))
     refine hK.out _ _ (HS2.out _ N4.out.1) (fun hHeld4 => ?_)
     clear hK K t4_0 t4_1 t4_2 t4_3 t4_4 t4_5 t4_6 t4_7 t4_8 hHeld3 N3 hst4
     try simp only [zU, qI, qX, qY]
     clear hc hu
     have z4 := N4.out.2.2.2.2.2.1
     have z5 := N4.out.2.1
     have eB := N4.out.2.2.2.2.2.2.1
     have eC := N4.out.2.2.1
     have nBC : ¬ X2.heap.size = X0.heap.size := by have := N4.out.2.2.2.2.2.2.2.1; omega
     have nCB : ¬ X0.heap.size = X2.heap.size := fun e => nBC e.symm
     have mB : ¬ X2.heap.size = w.heap.size := by omega
     have mC : ¬ X0.heap.size = w.heap.size := by omega
     obtain ⟨c4, f4⟩ := blk z4
     refine zQ (rs := [6]) (by kernel_rfl) (by simp) ?_
     refine zN (by simp only [qA, qS, qZ]; rfl) (fun K hK => ?_) zO
     go_simp
     obtain ⟨Y6, hY6, y6B, y6z, y6k, y6b⟩ := set_four X4 (X2.heap.size) 60 (.int .i64 0) (.slice none 0 0) (.int .i64 0) (.slice none 0 0) (.int .i64 l.quote) (.slice a1 l.lists.length c1) (.int .i64 l.kind) (.slice a2 l.cells.length c2) z4
     rw [hY6]
     have z5y := (y6k _ nCB).trans z5
     refine hK.out _ _ (HS3.out X4 Y6 N4.out.1 (y6k _ (fun e => mB e.symm))) (fun hHeld => ?_)
     have Z6 := zA (zB y6B (zB y6k y6b))
     obtain ⟨c5, f5⟩ := blk z5y
     clear hK K hY6 c4 f4 y6B y6k y6b
     try simp only [zU, qI, qX, qY]
     refine zQ (rs := [7]) (by kernel_rfl) (by simp) ?_
     refine zN (by simp only [qA, qS, qZ]; rfl) (fun K hK => ?_) zO
     go_simp
     obtain ⟨Y7, hY7, y7B, y7z, y7k, y7b⟩ := set_four Y6 (X0.heap.size) 60 (.int .i64 0) (.slice none 0 0) (.int .i64 0) (.slice none 0 0) (.int .i64 l.quote) (.slice a3 l.lists.length c3) (.int .i64 l.kind) (.slice none 0 0) z5y
     rw [hY7]
     refine hK.out _ _ (HS3.out X4 Y7 N4.out.1 ((y7k _ (fun e => mC e.symm)).trans (Z6.out.2.1 _ (fun e => mB e.symm)))) (fun hHeld => ?_)
     refine wpAnyH_done (by kernel_rfl) ?_ _
     have key : ∀ b : Nat, (∀ cs, X4.heap[b]? ≠ some (.cells cs 60)) → Y7.heap[b]? = X4.heap[b]? := fun b hno => (y7k b (fun e => by subst e; exact hno _ z5)).trans (Z6.out.2.1 b (fun e => by subst e; exact hno _ z4))
     exact ⟨X2.heap.size, X0.heap.size, a1, c1, a2, c2, a3, c3, _, _, _, _, _, _, _, _, _, _, _, _, _, _, _, _, _, _, _, _, _, _, _, _, _, _, _, _, _, _, _, _, _, _, _, _, _, _, _, rfl, eB, eC, nBC, (y7k _ nBC).trans Z6.out.1, y7B, qK (tagged_of _ _) (by decide) N4.out.2.2.2.1 (by omega) (fun b _ _ hno => key b hno) (fun b h _ => h), qK (tagged_of _ _) (by decide) N4.out.2.2.2.2.1 (by omega) (fun b _ _ hno => key b hno) (fun b h _ => h), qK (tagged_of _ _) (by decide) N4.out.2.2.2.2.2.2.2.2 (by omega) (fun b _ _ hno => key b hno) (fun b h _ => h), y7b _ eC _ (Z6.out.2.2 _ eB _ N4.out.1)⟩
    exact zO
   exact zO
  refine zN (by simp only [qA, qS, qZ]; rfl) (fun K hK => ?_) ?_
  ·go_simp
   obtain ⟨X2, hX2⟩ : ∃ X, X1.alloc (.cells #[.int .i64 0, .slice none 0 0, .int .i64 0, .slice none 0 0] 60) = X := ⟨_, rfl⟩
   rw [hX2]
   have hst2 : Below X1.heap.size X1 X2 := hX2 ▸ (zE _ _).alloc (zC _) _
   have z2 : X2.heap[X1.heap.size]? = some (.cells #[.int .i64 0, .slice none 0 0, .int .i64 0, .slice none 0 0] 60) := hX2 ▸ qG _ _ rfl
   clear hX2
   have t2_0 := zX N1.out.1 hst2
   have t2_1 := zY hst2 N1.out.2.1
   have t2_2 := N1.out.2.2
   have t2_3 := z2
   have t2_4 := N1.out.1.size
   have t2_5 := (zL.1 N1.out.2.1).1
   have N2 := zA (zB t2_0 (zB t2_1 (zB t2_2 (zB t2_3 (zB t2_4 (t2_5))))))
   refine hK.out _ _ (HS2.out _ N2.out.1) (fun hHeld2 => ?_)
   clear hK K t2_0 t2_1 t2_2 t2_3 t2_4 t2_5 hHeld1 N1 hst2
   try simp only [zU, qI, qX, qY]
   clear z2
   refine zQ (rs := [1]) (by kernel_rfl) (by simp) ?_
   refine zN (by simp only [qA, qS, qZ]; rfl) (fun K hK => ?_) ?_
   ·go_simp
    refine (HO.out _ (hx2.trans (N2.out.1.mono hsx2))).mono ?_
    rintro e X3 ⟨a', b', rfl, ha, hb, hst3⟩
    obtain ⟨a1, c1, rfl⟩ := ha.slice
    obtain ⟨a2, c2, rfl⟩ := hb.slice
    have hu := N2.out.1.size
    have t3_0 := zX N2.out.1 hst3
    have t3_1 := zY hst3 N2.out.2.1
    have t3_2 := N2.out.2.2.1
    have t3_3 := zY hst3 N2.out.2.2.2.1
    have t3_4 := N2.out.2.2.2.2.1
    have t3_5 := N2.out.2.2.2.2.2
    have t3_6 := qH (qC _) ha (qN _ _) (S' := fun b => w2.heap.size ≤ b) (fun b h _ => zD hu h)
    have t3_7 := qH (qC _) hb (qN _ _) (S' := fun b => w2.heap.size ≤ b) (fun b h _ => zD hu h)
    have N3 := zA (zB t3_0 (zB t3_1 (zB t3_2 (zB t3_3 (zB t3_4 (zB t3_5 (zB t3_6 (t3_7))))))))
    refine hK.out _ _ (HS2.out _ N3.out.1) (fun hHeld3 => ?_)
    clear hK K t3_0 t3_1 t3_2 t3_3 t3_4 t3_5 t3_6 t3_7 hHeld2 N2 hst3
    try simp only [zU, qI, qX, qY]
    clear ha hb hu
    refine zQ (rs := [3]) (by kernel_rfl) (by simp) ?_
    refine zN (by simp only [qA, qS, qZ]; rfl) (fun K hK => ?_) ?_
    ·go_simp
     refine (HF.out _ (hx2.trans (N3.out.1.mono hsx2))).mono ?_
     rintro e X4 ⟨a'', rfl, hc, hst4⟩
     obtain ⟨a3, c3, rfl⟩ := hc.slice
     have hu := N3.out.1.size
     have t4_0 := zX N3.out.1 hst4
     have t4_1 := zY hst4 N3.out.2.1
     have t4_2 := N3.out.2.2.1
     have t4_3 := zY hst4 N3.out.2.2.2.1
     have t4_4 := N3.out.2.2.2.2.1
     have t4_5 := N3.out.2.2.2.2.2.1
     have t4_6 := qJ (qC _) N3.out.2.2.2.2.2.2.1 hst4
     have t4_7 := qJ (qC _) N3.out.2.2.2.2.2.2.2 hst4
     have t4_8 := qH (qC _) hc (qN _ _) (S' := fun b => w2.heap.size ≤ b) (fun b h _ => zD hu h)
     have N4 := zA (zB t4_0 (zB t4_1 (zB t4_2 (zB t4_3 (zB t4_4 (zB t4_5 (zB t4_6 (zB t4_7 (t4_8)))))))))
     refine hK.out _ _ (HS2.out _ N4.out.1) (fun hHeld4 => ?_)
     clear hK K t4_0 t4_1 t4_2 t4_3 t4_4 t4_5 t4_6 t4_7 t4_8 hHeld3 N3 hst4
     try simp only [zU, qI, qX, qY]
     clear hc hu
     have z4 := N4.out.2.2.2.1
     have z5 := N4.out.2.1
     have eB := N4.out.2.2.2.2.1
     have eC := N4.out.2.2.1
     have nBC : ¬ X1.heap.size = X0.heap.size := by have := N4.out.2.2.2.2.2.1; omega
     have nCB : ¬ X0.heap.size = X1.heap.size := fun e => nBC e.symm
     have mB : ¬ X1.heap.size = w.heap.size := by omega
     have mC : ¬ X0.heap.size = w.heap.size := by omega
     obtain ⟨c4, f4⟩ := blk z4
     refine zQ (rs := [6]) (by kernel_rfl) (by simp) ?_
     refine zN (by simp only [qA, qS, qZ]; rfl) (fun K hK => ?_) zO
     go_simp
     obtain ⟨Y6, hY6, y6B, y6z, y6k, y6b⟩ := set_four X4 (X1.heap.size) 60 (.int .i64 0) (.slice none 0 0) (.int .i64 0) (.slice none 0 0) (.int .i64 l.quote) (.slice a1 l.lists.length c1) (.int .i64 l.kind) (.slice a2 l.cells.length c2) z4
     rw [hY6]
     have z5y := (y6k _ nCB).trans z5
     refine hK.out _ _ (HS3.out X4 Y6 N4.out.1 (y6k _ (fun e => mB e.symm))) (fun hHeld => ?_)
     have Z6 := zA (zB y6B (zB y6k y6b))
     obtain ⟨c5, f5⟩ := blk z5y
     clear hK K hY6 c4 f4 y6B y6k y6b
     try simp only [zU, qI, qX, qY]
     refine zQ (rs := [7]) (by kernel_rfl) (by simp) ?_
     refine zN (by simp only [qA, qS, qZ]; rfl) (fun K hK => ?_) zO
     go_simp
     obtain ⟨Y7, hY7, y7B, y7z, y7k, y7b⟩ := set_four Y6 (X0.heap.size) 60 (.int .i64 0) (.slice none 0 0) (.int .i64 0) (.slice none 0 0) (.int .i64 l.quote) (.slice a3 l.lists.length c3) (.int .i64 l.kind) (.slice none 0 0) z5y
     rw [hY7]
     refine hK.out _ _ (HS3.out X4 Y7 N4.out.1 ((y7k _ (fun e => mC e.symm)).trans (Z6.out.2.1 _ (fun e => mB e.symm)))) (fun hHeld => ?_)
     refine wpAnyH_done (by kernel_rfl) ?_ _
     have key : ∀ b : Nat, (∀ cs, X4.heap[b]? ≠ some (.cells cs 60)) → Y7.heap[b]? = X4.heap[b]? := fun b hno => (y7k b (fun e => by subst e; exact hno _ z5)).trans (Z6.out.2.1 b (fun e => by subst e; exact hno _ z4))
     exact ⟨X1.heap.size, X0.heap.size, a1, c1, a2, c2, a3, c3, _, _, _, _, _, _, _, _, _, _, _, _, _, _, _, _, _, _, _, _, _, _, _, _, _, _, _, _, _, _, _, _, _, _, _, _, _, _, _, rfl, eB, eC, nBC, (y7k _ nBC).trans Z6.out.1, y7B, qK (tagged_of _ _) (by decide) N4.out.2.2.2.2.2.2.1 (by omega) (fun b _ _ hno => key b hno) (fun b h _ => h), qK (tagged_of _ _) (by decide) N4.out.2.2.2.2.2.2.2.1 (by omega) (fun b _ _ hno => key b hno) (fun b h _ => h), qK (tagged_of _ _) (by decide) N4.out.2.2.2.2.2.2.2.2 (by omega) (fun b _ _ hno => key b hno) (fun b h _ => h), y7b _ eC _ (Z6.out.2.2 _ eB _ N4.out.1)⟩
    exact zO
   exact zO
  exact zO
 exact zO
 -- END TREE
end Go.Proofs.YtcliojeoindceaaGreatDoor
