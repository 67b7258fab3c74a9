/- Lines: what is turned: lines.Outdent, lines.Free, their closures. -/
import Derived.Test.YtcliojeoindceaaGreatDoorLineLiftS
import Derived.Test.YtcliojeoindceaaGreatDoorDocPartS
import Derived.Test.YtcliojeoindceaaGreatDoorAttrWalkS
import Derived.Lib.QuoteLoop
import Derived.Lib.TrimUEq
import Derived.Test.YtcliojeoindceaaGreatDoorSelectS
import Derived.Test.YtcliojeoindceaaGreatDoorDocSplitS
import Derived.Test.YtcliojeoindceaaGreatDoorRefLongS
set_option linter.unusedVariables false
set_option linter.unusedSimpArgs false
set_option maxHeartbeats 8000000
namespace Go.Proofs.Qw
open Go.RowKit Go.Proofs.YtcliojeoindceaaGreatDoor
def outdentL (l : Lin) : Option Lin := if l.lists ≠ [] then some { l with lists := l.lists.dropLast } else if 0 < l.quote then some { l with quote := l.quote - 1 } else none
def freeL (l : Lin) : Option Lin := if l.lists ≠ [] then some { l with lists := l.lists.dropLast } else if 0 < l.kind then some { l with kind := 0 } else if 0 < l.quote then some { l with quote := l.quote - 1 } else none
end Go.Proofs.Qw
namespace Go.Proofs.YtcliojeoindceaaGreatDoor
open Go.RowKit
open Go.Proofs.Qw
attribute [local go_sem] Oper.semAt_some
open _root_.Go.Lib renaming hid → zA
open _root_.And renaming intro → zB
open _root_.Nat renaming le_refl → zC
open _root_.Go.RowKit.Below renaming refl → zE, setCell → zF, alloc → zG, drew → zH
open _root_.Array renaming getElem?_eq_some_iff → zL
open _root_.Go renaming bodyPost_ret → zM
open _root_.Go.Proofs.Tryz renaming prog → zV
open _root_.Go.Proofs.Qw renaming rdOf_stable → qC
open _root_.Go.Proofs.Qw.SliceR renaming stable → qH
open _root_.Go.Proofs.Qw.Keeps renaming refl → qN, alloc → qO, drew → qP, set → qQ
open _root_.Go.Proofs.YtcliojeoindceaaGreatDoor renaming heap_set → qT
theorem mayL_facts {l : Lin} (h : mayL l = true) : 0 ≤ l.quote ∧ l.quote ≤ 6 ∧ l.lists.length ≤ 6 ∧ 0 ≤ l.kind ∧ l.kind ≤ 3 ∧ (l.lists = [] ∨ l.kind = 0) ∧ (∀ k ∈ l.lists, k = 0 ∨ k = 1) ∧ mayCs l.cells = true := by
 unfold mayL at h
 simp only [Bool.and_eq_true, Bool.or_eq_true, decide_eq_true_eq, List.all_eq_true] at h
 obtain ⟨⟨⟨⟨⟨⟨⟨h1, h2⟩, h3⟩, h4⟩, h5⟩, h6⟩, h7⟩, h8⟩ := h
 exact ⟨h1, h2, h3, h4, h5, h6, h7, h8⟩
theorem lastF_yes {l : Lin} (h : mayL l = true) (hne : l.lists ≠ []) : 0 ≤ lastF l.lists := by
 obtain ⟨_, _, _, _, _, _, h7, _⟩ := mayL_facts h
 unfold lastF
 rw [List.getLastD_eq_getLast?, List.getLast?_eq_some_getLast hne]
 rcases h7 _ (List.getLast_mem hne) with e | e <;> simp [e]
def TurnPost (B : Nat) (l : Lin) (la : Option Addr) (lc : Nat) (cv : Value) (w : World) (r : Option Lin) (e : Ending) (w' : World) : Prop :=
 e = .returned (.bool r.isSome) ∧ (∃ q k n c, w'.heap[B]? = some (.cells #[.int .i64 q, .slice la n c, .int .i64 k, cv] 60) ∧ ∀ l', r = some l' → l'.quote = q ∧ l'.kind = k ∧ l'.lists = l.lists.take n ∧ l'.cells = l.cells ∧ n ≤ l.lists.length ∧ n ≤ c ∧ c ≤ lc) ∧
  (∀ b, b < w.heap.size → b ≠ B → w'.heap[b]? = w.heap[b]?) ∧ w.heap.size ≤ w'.heap.size ∧ Below B w w'
theorem TurnPost.mk' {B : Nat} {l : Lin} {la : Option Addr} {lc : Nat} {cv : Value} {w w1 w' : World} {r : Option Lin} {e : Ending} (he : e = .returned (.bool r.isSome)) (hB : B < w.heap.size) (h1 : Below w.heap.size w w1) (ho : ∀ b, b ≠ B → w'.heap[b]? = w1.heap[b]?) (hs : w'.heap.size = w1.heap.size) (hb : Below B w1 w')
  (q k : Int) (n c : Nat) (hq : w'.heap[B]? = some (.cells #[.int .i64 q, .slice la n c, .int .i64 k, cv] 60)) (hl : ∀ l', r = some l' → l'.quote = q ∧ l'.kind = k ∧ l'.lists = l.lists.take n ∧ l'.cells = l.cells ∧ n ≤ l.lists.length ∧ n ≤ c ∧ c ≤ lc) : TurnPost B l la lc cv w r e w' :=
 ⟨he, ⟨q, k, n, c, hq, hl⟩, fun b hbz hne => (ho b hne).trans (h1.block b hbz), by rw [hs]; exact h1.size, (h1.mono (Nat.le_of_lt hB)).trans hb⟩
theorem outdent1_any (B : Nat) (l : Lin) (la : Option Addr) (lc : Nat) (cv : Value) (w : World) (S : Nat → Prop) (hm : mayL l = true) (h : IntsR false w S (.slice la l.lists.length lc) l.lists) (hB : w.heap[B]? = some (.cells #[.int .i64 l.quote, .slice la l.lists.length lc, .int .i64 l.kind, cv] 60)) :
  Calls zV 230 #[.pointer (some ⟨B, 0, none⟩)] w (TurnPost B l la lc cv w (outdentL l)) := by
 have hBz : B < w.heap.size := (zL.1 hB).1
 obtain ⟨hq0, hq6, _⟩ := mayL_facts hm
 have hlen := h.len
 by_cases hn : l.lists = []
 ·have HL := zA (lineLift_no B l.quote l.kind l.lists la lc cv w S h hB (by rw [hn]; decide))
  have HR : Hid (outdentL l = if 0 < l.quote then some { l with quote := l.quote - 1 } else none) := zA (by unfold outdentL; rw [if_neg (fun e => e hn)])
  have HB := zA hB
  have HN := zA hn
  have HE := zA hlen
  have w1 : IntKind.i64.wrap (l.quote - 1) = l.quote - 1 := IntWalk.i64_in _ (by omega)
  clear h hB hn hlen
  go_enter Tryz.func230, Tryz.ntmps230
  go_wp2_with (go_at_call 231; refine HL.out.mono ?_; rintro e w2 ⟨rfl, hb2, hh2⟩; have HW2 := zA (zB hb2 hh2); have HB2 : Hid (w2.heap[B]? = _) := zA (hh2 ▸ HB.out); clear hb2 hh2; obtain ⟨p0, f0⟩ := blk HB2.out)
  go_ret
  rw [HR.out]
  refine TurnPost.mk' ?_ hBz HW2.out.1 (fun b hb => by simp [qT, Ne.symm hb]) (by simp) (by exact zF (p := ⟨B, 0, none⟩) (zE B _) (zC B) _) (l.quote - 1) l.kind l.lists.length lc (by simp [qT, putIn, HB2.out]) ?_
  ·split <;> simp <;> omega
  ·intro l' hl'
   split at hl'
   ·cases hl'
    exact ⟨rfl, rfl, by simp, rfl, zC _, HE.out.2.1, zC _⟩
   ·cases hl'
 ·have HL := zA (lineLift_yes B l.quote l.kind l.lists la lc cv w S h hB hn (lastF_yes hm hn))
  have HR : Hid (outdentL l = some { l with lists := l.lists.dropLast }) := zA (by unfold outdentL; rw [if_pos hn])
  have HB := zA hB
  have HE := zA hlen
  clear h hB hn hlen
  go_enter Tryz.func230, Tryz.ntmps230
  go_wp2_with (go_at_call 231; refine HL.out.mono ?_; rintro e w2 ⟨rfl, w3, hh3, hb3, rfl⟩; have HW3 := zA (zB hb3 hh3); clear hb3 hh3)
  go_ret
  rw [HR.out]
  refine TurnPost.mk' rfl hBz HW3.out.1 (fun b hb => by simp [qT, Ne.symm hb]) (by simp) (by exact zF (p := ⟨B, 1, none⟩) (zE B _) (zC B) _) l.quote l.kind (l.lists.length - 1) (l.lists.length - 1) (by have := HW3.out.2 ▸ HB.out; simp [qT, putIn, this]) ?_
  intro l' hl'
  cases hl'
  exact ⟨rfl, rfl, by rw [List.dropLast_eq_take], rfl, by omega, zC _, by have := HE.out; omega⟩
theorem free1_any (B : Nat) (l : Lin) (la : Option Addr) (lc : Nat) (cv : Value) (w : World) (S : Nat → Prop) (hm : mayL l = true) (h : IntsR false w S (.slice la l.lists.length lc) l.lists) (hB : w.heap[B]? = some (.cells #[.int .i64 l.quote, .slice la l.lists.length lc, .int .i64 l.kind, cv] 60)) :
  Calls zV 234 #[.pointer (some ⟨B, 0, none⟩)] w (TurnPost B l la lc cv w (freeL l)) := by
 have hBz : B < w.heap.size := (zL.1 hB).1
 obtain ⟨hq0, hq6, _, hk0, hk3, _⟩ := mayL_facts hm
 have hlen := h.len
 by_cases hn : l.lists = []
 ·have HL := zA (lineLift_no B l.quote l.kind l.lists la lc cv w S h hB (by rw [hn]; decide))
  have HR : Hid (freeL l = if 0 < l.kind then some { l with kind := 0 } else if 0 < l.quote then some { l with quote := l.quote - 1 } else none) := zA (by unfold freeL; rw [if_neg (fun e => e hn)])
  have HB := zA hB
  have HN := zA hn
  have HE := zA hlen
  have w1 : IntKind.i64.wrap (l.quote - 1) = l.quote - 1 := IntWalk.i64_in _ (by omega)
  clear h hB hn hlen
  rcases (show (0 < l.kind) ∨ (¬ 0 < l.kind ∧ 0 < l.quote) ∨ (¬ 0 < l.kind ∧ ¬ 0 < l.quote) by omega) with hk | ⟨hk, hq⟩ | ⟨hk, hq⟩
  ·rw [if_pos hk] at HR
   go_enter Tryz.func234, Tryz.ntmps234
   go_wp2_with (go_at_call 231; refine HL.out.mono ?_; rintro e w2 ⟨rfl, hb2, hh2⟩; have HW2 := zA (zB hb2 hh2); have HB2 : Hid (w2.heap[B]? = _) := zA (hh2 ▸ HB.out); clear hb2 hh2; obtain ⟨p0, f0⟩ := blk HB2.out)
   go_ret
   rw [HR.out]
   refine TurnPost.mk' rfl hBz HW2.out.1 (fun b hb => by simp [qT, Ne.symm hb]) (by simp) (by exact zF (p := ⟨B, 2, none⟩) (zE B _) (zC B) _) l.quote 0 l.lists.length lc (by simp [qT, putIn, HB2.out]) ?_
   intro l' hl'
   cases hl'
   exact ⟨rfl, rfl, by simp, rfl, zC _, HE.out.2.1, zC _⟩
  ·rw [if_neg hk, if_pos hq] at HR
   go_enter Tryz.func234, Tryz.ntmps234
   go_wp2_with (go_at_call 231; refine HL.out.mono ?_; rintro e w2 ⟨rfl, hb2, hh2⟩; have HW2 := zA (zB hb2 hh2); have HB2 : Hid (w2.heap[B]? = _) := zA (hh2 ▸ HB.out); clear hb2 hh2; obtain ⟨p0, f0⟩ := blk HB2.out)
   go_ret
   rw [HR.out]
   refine TurnPost.mk' rfl hBz HW2.out.1 (fun b hb => by simp [qT, Ne.symm hb]) (by simp) (by exact zF (p := ⟨B, 0, none⟩) (zE B _) (zC B) _) (l.quote - 1) l.kind l.lists.length lc (by simp [qT, putIn, HB2.out]) ?_
   intro l' hl'
   cases hl'
   exact ⟨rfl, rfl, by simp, rfl, zC _, HE.out.2.1, zC _⟩
  ·rw [if_neg hk, if_neg hq] at HR
   go_enter Tryz.func234, Tryz.ntmps234
   go_wp2_with (go_at_call 231; refine HL.out.mono ?_; rintro e w2 ⟨rfl, hb2, hh2⟩; have HW2 := zA (zB hb2 hh2); have HB2 : Hid (w2.heap[B]? = _) := zA (hh2 ▸ HB.out); clear hb2 hh2; obtain ⟨p0, f0⟩ := blk HB2.out)
   go_ret
   rw [HR.out]
   refine TurnPost.mk' rfl hBz HW2.out.1 (fun b _ => rfl) rfl (zE _ _) l.quote l.kind l.lists.length lc HB2.out ?_
   intro l' hl'
   cases hl'
 ·have HL := zA (lineLift_yes B l.quote l.kind l.lists la lc cv w S h hB hn (lastF_yes hm hn))
  have HR : Hid (freeL l = some { l with lists := l.lists.dropLast }) := zA (by unfold freeL; rw [if_pos hn])
  have HB := zA hB
  have HE := zA hlen
  clear h hB hn hlen
  go_enter Tryz.func234, Tryz.ntmps234
  go_wp2_with (go_at_call 231; refine HL.out.mono ?_; rintro e w2 ⟨rfl, w3, hh3, hb3, rfl⟩; have HW3 := zA (zB hb3 hh3); clear hb3 hh3)
  go_ret
  rw [HR.out]
  refine TurnPost.mk' rfl hBz HW3.out.1 (fun b hb => by simp [qT, Ne.symm hb]) (by simp) (by exact zF (p := ⟨B, 1, none⟩) (zE B _) (zC B) _) l.quote l.kind (l.lists.length - 1) (l.lists.length - 1) (by have := HW3.out.2 ▸ HB.out; simp [qT, putIn, this]) ?_
  intro l' hl'
  cases hl'
  exact ⟨rfl, rfl, by rw [List.dropLast_eq_take], rfl, by omega, zC _, by have := HE.out; omega⟩
theorem results_lineE {fn : Func} {p u : Tmp} (h : fn.results = #[.cell p 60, .tmp u]) (tmps : Array Value) (w : World) (B : Nat) (x1 x2 x3 x4 : Value) (hp : tmps.getD p undef = .pointer (some ⟨B, 0, none⟩))
  (hB : w.heap[B]? = some (.cells #[x1, x2, x3, x4] 60)) :
  (results fn tmps).run zV w = .ok (.tuple #[.agg #[x1, x2, x3, x4], tmps.getD u undef]) w := by
 have h1 := run_loadVar_row (P := zV) w B 60 60 _ _ _ hB Tryz.underlying60 rfl (by kernel_rfl)
 have hp' : tmps[p]?.getD undef = .pointer (some ⟨B, 0, none⟩) := by simpa using hp
 simp [results, h, hp', asAddr, h1]
def TurnSaid (w : World) (r : Option Lin) (e : Ending) (w' : World) : Prop :=
 (∀ l', r = some l' → ∃ a' b', e = .returned (.tuple #[linV l' a' b', .int .i64 0]) ∧ IntsR true w' (fun b => w.heap.size ≤ b) a' l'.lists ∧ CelsR true w' (fun b => w.heap.size ≤ b) b' l'.cells) ∧
  (r = none → e = .returned (.tuple #[.agg #[.int .i64 0, .slice none 0 0, .int .i64 0, .slice none 0 0], .int .i64 7])) ∧ Below w.heap.size w w'
set_option maxRecDepth 100000 in
theorem turned_any (g : Nat) (T : Lin → Option Lin) (eg : ∀ args w, (callFunc g args).run zV w = .ok (.enter g args) w)
  (HT : ∀ (B : Nat) (l : Lin) (la : Option Addr) (lc : Nat) (cv : Value) (w : World) (S : Nat → Prop), mayL l = true → IntsR false w S (.slice la l.lists.length lc) l.lists → w.heap[B]? = some (.cells #[.int .i64 l.quote, .slice la l.lists.length lc, .int .i64 l.kind, cv] 60) →
   Calls zV g #[.pointer (some ⟨B, 0, none⟩)] w (TurnPost B l la lc cv w (T l)))
  (l : Lin) (la ca : Option Addr) (lc cc : Nat) (w w0 : World) (S : Nat → Prop) (hL : IntsR false w0 S (.slice la l.lists.length lc) l.lists) (hC : CelsR false w0 S (.slice ca l.cells.length cc) l.cells) (h0 : Below w0.heap.size w0 w)
  (he : EnvT w) (hs : l.lists.length ≤ 1000000 ∧ l.cells.length ≤ 1000000) (hh : ∀ c ∈ l.cells, c.href.length ≤ 1000000) (hm : mayL l = true) :
  Calls zV 229 #[linV l (.slice la l.lists.length lc) (.slice ca l.cells.length cc), .func (.func g) #[] #[]] w (TurnSaid w (T l)) := by
 obtain ⟨W1, hW1, hB, hz, hA1, hA2⟩ := two_lines w (.int .i64 l.quote) (.slice la l.lists.length lc) (.int .i64 l.kind) (.slice ca l.cells.length cc) (.int .i64 0) (.slice none 0 0) (.int .i64 0) (.slice none 0 0)
 have h01 : Below w0.heap.size w0 W1 := below_from h0 hB
 have HM := zA (lineMay_any l la ca lc cc W1 w0 S hL hC (he.below hB) h01 hh)
 rw [hm] at HM
 have HO : Hid (∀ W, Below w0.heap.size w0 W → Calls zV 134 #[linV l (.slice la l.lists.length lc) (.slice ca l.cells.length cc)] W fun e w' => ∃ a' b', e = .returned (linV l a' b') ∧ IntsR true w' (fun b => W.heap.size ≤ b) a' l.lists ∧ CelsR true w' (fun b => W.heap.size ≤ b) b' l.cells ∧ Below W.heap.size W w') := zA fun W hW => lineOwn_any l _ _ false false W w0 S hL hC hW hs
 have HG : Hid (∀ (B : Nat) (la : Option Addr) (lc : Nat) (cv : Value) (w : World) (S : Nat → Prop), IntsR false w S (.slice la l.lists.length lc) l.lists → w.heap[B]? = some (.cells #[.int .i64 l.quote, .slice la l.lists.length lc, .int .i64 l.kind, cv] 60) → Calls zV g #[.pointer (some ⟨B, 0, none⟩)] w (TurnPost B l la lc cv w (T l))) := zA fun B la lc cv w S h1 h2 => HT B l la lc cv w S hm h1 h2
 have hs1 := hB.size
 have HB0 : Hid (∀ W, Below W1.heap.size W1 W → W.heap[w.heap.size]? = some (.cells #[.int .i64 l.quote, .slice la l.lists.length lc, .int .i64 l.kind, .slice ca l.cells.length cc] 60) ∧ W.heap[w.heap.size + 1]? = some (.cells #[.int .i64 0, .slice none 0 0, .int .i64 0, .slice none 0 0] 60)) := zA fun W hW => ⟨heap_below hW hA1, heap_below hW hA2⟩
 have H1 := zA hB
 have H01 := zA h01
 obtain ⟨p1, f1⟩ := blk hA1
 obtain ⟨p2, f2⟩ := blk hA2
 obtain ⟨r, hr⟩ : ∃ r, T l = r := ⟨_, rfl⟩
 rw [hr] at HG ⊢
 clear hL hC hs hB h0 HT hr hm he h01
 unfold linV at HO ⊢
 go_enter Tryz.func229, Tryz.ntmps229
 go_wp2_with (first | (go_at_call 131; refine HM.out.mono ?_; rintro e w2 ⟨rfl, hb2⟩; obtain ⟨hA3, hA4⟩ := HB0.out _ hb2; obtain ⟨q0, g0⟩ := blk hA3; obtain ⟨q1, g1⟩ := blk hA4) | (go_at_call 134; refine (HO.out _ (below_from H01.out hb2)).mono ?_; rintro e w3 ⟨a', b', rfl, ha', hb', hb3⟩; obtain ⟨a1, c1, rfl⟩ := ha'.slice; obtain ⟨a2, c2, rfl⟩ := hb'.slice; obtain ⟨hA5, hA6⟩ := HB0.out _ (below_from hb2 hb3); obtain ⟨p3, f3⟩ := blk hA5; obtain ⟨p4, f4⟩ := blk hA6))
 obtain ⟨Y, hY, hYB, hYs, hYo, hYb⟩ := set_four w3 w.heap.size 60 _ _ _ _ (.int .i64 l.quote) (.slice a1 l.lists.length c1) (.int .i64 l.kind) (.slice a2 l.cells.length c2) hA5
 have hx2 := below_from H1.out hb2
 have hx3 : Below w.heap.size w w3 := below_from hx2 hb3
 have hn3 : w.heap.size + 2 ≤ w2.heap.size := by have := hb2.size; omega
 have hle3 := hb3.size
 have hiY : IntsR true Y (fun b => w2.heap.size ≤ b) (.slice a1 l.lists.length c1) l.lists := qH (qC _) ha' (Keeps.only hYs hYo (by simp; omega)) (fun b h _ => h)
 have hcY : CelsR true Y (fun b => w2.heap.size ≤ b) (.slice a2 l.cells.length c2) l.cells := qH (qC _) hb' (Keeps.only hYs hYo (by simp; omega)) (fun b h _ => h)
 have hcl := hiY.len
 rw [hY]
 have hA7 : Y.heap[w.heap.size + 1]? = some (.cells #[.int .i64 0, .slice none 0 0, .int .i64 0, .slice none 0 0] 60) := (hYo _ (by omega)).trans hA6
 refine (HG.out w.heap.size a1 c1 (.slice a2 l.cells.length c2) Y (fun b => w2.heap.size ≤ b) (SliceR.read (fun _ _ h => h) hiY) hYB).mono ?_
 rintro e w4 ⟨rfl, ⟨q, k, n, c, h4, hl4⟩, ho4, hz4, hb4⟩
 have hA8 := (ho4 (w.heap.size + 1) (by omega) (by omega)).trans hA7
 have hi4 : IntsR true w4 (fun b => w2.heap.size ≤ b) (.slice a1 l.lists.length c1) l.lists := qH (qC _) hiY ⟨hz4, fun b hb hz => ho4 b hz (by omega)⟩ (fun b h _ => h)
 have hc4 : CelsR true w4 (fun b => w2.heap.size ≤ b) (.slice a2 l.cells.length c2) l.cells := qH (qC _) hcY ⟨hz4, fun b hb hz => ho4 b hz (by omega)⟩ (fun b h _ => h)
 have hx4 : Below w.heap.size w w4 := (hYb _ (zC _) w hx3).trans hb4
 have HI := zA hi4
 have HCC := zA hc4
 have HX4 := zA hx4
 clear hi4 hc4 hx4 hiY hcY hYB hYo hYb ha' hb' ho4 hb4 HG HO HM hx2 hx3
 obtain ⟨p5, f5⟩ := blk h4
 obtain ⟨p6, f6⟩ := blk hA8
 clear p1 f1 p2 f2 q0 g0 q1 g1 p3 f3 p4 f4 hY
 cases r with
 | none =>
  go_wp2_with fail
  refine zM (results_lineE rfl _ _ (w.heap.size + 1) (.int .i64 0) (.slice none 0 0) (.int .i64 0) (.slice none 0 0) rfl (by simp [qT, putIn, hA8])) rfl ?_
  refine ⟨fun l' h => (by cases h), fun _ => rfl, ?_⟩
  have := HX4.out
  ((with_reducible repeat' first | exact zE _ _ | assumption | refine zG ?_ ?_ _ | refine zH ?_ | refine drewN_below ?_ | refine zF ?_ ?_ _) <;> go_size)
 | some l' =>
  obtain ⟨rfl, rfl, e3, e4, e5, e6, e7⟩ := hl4 l' rfl
  have HE := zA (zB e3 e4)
  clear hl4 e3 e4
  go_wp2_with fail
  refine zM (results_lineE rfl _ _ (w.heap.size + 1) (.int .i64 l'.quote) (.slice a1 n c) (.int .i64 l'.kind) (.slice a2 l.cells.length c2) rfl (by simp [qT, putIn, hA8])) rfl ?_
  refine ⟨fun l'' h => ?_, fun h => (by cases h), ?_⟩
  ·cases h
   refine ⟨_, _, rfl, ?_, ?_⟩
   ·rw [HE.out.1]
    have hh := SliceR.caps (HI.out.take e5) (m := c) (by rw [List.length_take]; omega) e7
    exact (qH (qC _) hh (by ((with_reducible repeat' first | exact qN _ _ | refine qQ ?_ ?_ _ | refine qO ?_ _ | refine qP ?_) <;> (simp; omega))) (fun b h _ => (by have h' := h; (try simp at h'); omega)))
   ·rw [HE.out.2]
    have hh := HCC.out
    exact (qH (qC _) hh (by ((with_reducible repeat' first | exact qN _ _ | refine qQ ?_ ?_ _ | refine qO ?_ _ | refine qP ?_) <;> (simp; omega))) (fun b h _ => (by have h' := h; (try simp at h'); omega)))
  ·have := HX4.out
   ((with_reducible repeat' first | exact zE _ _ | assumption | refine zG ?_ ?_ _ | refine zH ?_ | refine drewN_below ?_ | refine zF ?_ ?_ _) <;> go_size)
theorem lineOutdent_any (l : Lin) (la ca : Option Addr) (lc cc : Nat) (w w0 : World) (S : Nat → Prop) (hL : IntsR false w0 S (.slice la l.lists.length lc) l.lists) (hC : CelsR false w0 S (.slice ca l.cells.length cc) l.cells) (h0 : Below w0.heap.size w0 w)
  (he : EnvT w) (hs : l.lists.length ≤ 1000000 ∧ l.cells.length ≤ 1000000) (hh : ∀ c ∈ l.cells, c.href.length ≤ 1000000) (hm : mayL l = true) :
  Calls zV 147 #[linV l (.slice la l.lists.length lc) (.slice ca l.cells.length cc)] w (TurnSaid w (outdentL l)) := by
 obtain ⟨W1, hW1, hB, hz, hA1, hA2⟩ := two_lines w (.int .i64 l.quote) (.slice la l.lists.length lc) (.int .i64 l.kind) (.slice ca l.cells.length cc) (.int .i64 0) (.slice none 0 0) (.int .i64 0) (.slice none 0 0)
 have HT := zA (turned_any 230 outdentL (enters_of Tryz.func230 (by kernel_rfl) rfl) outdent1_any l la ca lc cc W1 w0 S hL hC (below_from h0 hB) (he.below hB) hs hh hm)
 have hs1 := hB.size
 have HB0 : Hid (∀ W, Below W1.heap.size W1 W → W.heap[w.heap.size]? = some (.cells #[.int .i64 l.quote, .slice la l.lists.length lc, .int .i64 l.kind, .slice ca l.cells.length cc] 60) ∧ W.heap[w.heap.size + 1]? = some (.cells #[.int .i64 0, .slice none 0 0, .int .i64 0, .slice none 0 0] 60)) := zA fun W hW => ⟨heap_below hW hA1, heap_below hW hA2⟩
 have H1 := zA hB
 obtain ⟨p1, f1⟩ := blk hA1
 obtain ⟨p2, f2⟩ := blk hA2
 obtain ⟨r, hr⟩ : ∃ r, outdentL l = r := ⟨_, rfl⟩
 rw [hr] at HT ⊢
 clear hL hC hs hB h0 hr hm he
 unfold linV at HT ⊢
 cases r with
 | none =>
  go_enter Tryz.func147, Tryz.ntmps147
  go_wp2_with (go_at_call 229; refine HT.out.mono ?_; rintro e w2 ⟨_, he2, hb2⟩; obtain rfl := he2 rfl; obtain ⟨hA3, hA4⟩ := HB0.out _ hb2; obtain ⟨q0, g0⟩ := blk hA3; obtain ⟨q1, g1⟩ := blk hA4)
  refine zM (results_lineE rfl _ _ (w.heap.size + 1) (.int .i64 0) (.slice none 0 0) (.int .i64 0) (.slice none 0 0) rfl (by simp [qT, putIn, hA4])) rfl ?_
  refine ⟨fun l' h => (by cases h), fun _ => rfl, ?_⟩
  have := H1.out.trans (hb2.mono hs1)
  ((with_reducible repeat' first | exact zE _ _ | assumption | refine zG ?_ ?_ _ | refine zH ?_ | refine drewN_below ?_ | refine zF ?_ ?_ _) <;> go_size)
 | some l' =>
  go_enter Tryz.func147, Tryz.ntmps147
  go_wp2_with (go_at_call 229; refine HT.out.mono ?_; rintro e w2 ⟨he2, _, hb2⟩; obtain ⟨a', b', rfl, ha', hb'⟩ := he2 _ rfl; obtain ⟨a1, c1, rfl⟩ := ha'.slice; obtain ⟨a2, c2, rfl⟩ := hb'.slice; obtain ⟨hA3, hA4⟩ := HB0.out _ hb2; obtain ⟨q0, g0⟩ := blk hA3; obtain ⟨q1, g1⟩ := blk hA4)
  refine zM (results_lineE rfl _ _ (w.heap.size + 1) (.int .i64 l'.quote) (.slice a1 l'.lists.length c1) (.int .i64 l'.kind) (.slice a2 l'.cells.length c2) rfl (by simp [qT, putIn, hA4])) rfl ?_
  refine ⟨fun l'' h => ?_, fun h => (by cases h), ?_⟩
  ·cases h
   exact ⟨_, _, rfl, (qH (qC _) ha' (by ((with_reducible repeat' first | exact qN _ _ | refine qQ ?_ ?_ _ | refine qO ?_ _ | refine qP ?_) <;> (simp; omega))) (fun b h _ => (by have h' := h; (try simp at h'); omega))), (qH (qC _) hb' (by ((with_reducible repeat' first | exact qN _ _ | refine qQ ?_ ?_ _ | refine qO ?_ _ | refine qP ?_) <;> (simp; omega))) (fun b h _ => (by have h' := h; (try simp at h'); omega)))⟩
  ·have := H1.out.trans (hb2.mono hs1)
   ((with_reducible repeat' first | exact zE _ _ | assumption | refine zG ?_ ?_ _ | refine zH ?_ | refine drewN_below ?_ | refine zF ?_ ?_ _) <;> go_size)
theorem lineFree_any (l : Lin) (la ca : Option Addr) (lc cc : Nat) (w w0 : World) (S : Nat → Prop) (hL : IntsR false w0 S (.slice la l.lists.length lc) l.lists) (hC : CelsR false w0 S (.slice ca l.cells.length cc) l.cells) (h0 : Below w0.heap.size w0 w)
  (he : EnvT w) (hs : l.lists.length ≤ 1000000 ∧ l.cells.length ≤ 1000000) (hh : ∀ c ∈ l.cells, c.href.length ≤ 1000000) (hm : mayL l = true) :
  Calls zV 150 #[linV l (.slice la l.lists.length lc) (.slice ca l.cells.length cc)] w (TurnSaid w (freeL l)) := by
 obtain ⟨W1, hW1, hB, hz, hA1, hA2⟩ := two_lines w (.int .i64 l.quote) (.slice la l.lists.length lc) (.int .i64 l.kind) (.slice ca l.cells.length cc) (.int .i64 0) (.slice none 0 0) (.int .i64 0) (.slice none 0 0)
 have HT := zA (turned_any 234 freeL (enters_of Tryz.func234 (by kernel_rfl) rfl) free1_any l la ca lc cc W1 w0 S hL hC (below_from h0 hB) (he.below hB) hs hh hm)
 have hs1 := hB.size
 have HB0 : Hid (∀ W, Below W1.heap.size W1 W → W.heap[w.heap.size]? = some (.cells #[.int .i64 l.quote, .slice la l.lists.length lc, .int .i64 l.kind, .slice ca l.cells.length cc] 60) ∧ W.heap[w.heap.size + 1]? = some (.cells #[.int .i64 0, .slice none 0 0, .int .i64 0, .slice none 0 0] 60)) := zA fun W hW => ⟨heap_below hW hA1, heap_below hW hA2⟩
 have H1 := zA hB
 obtain ⟨p1, f1⟩ := blk hA1
 obtain ⟨p2, f2⟩ := blk hA2
 obtain ⟨r, hr⟩ : ∃ r, freeL l = r := ⟨_, rfl⟩
 rw [hr] at HT ⊢
 clear hL hC hs hB h0 hr hm he
 unfold linV at HT ⊢
 cases r with
 | none =>
  go_enter Tryz.func150, Tryz.ntmps150
  go_wp2_with (go_at_call 229; refine HT.out.mono ?_; rintro e w2 ⟨_, he2, hb2⟩; obtain rfl := he2 rfl; obtain ⟨hA3, hA4⟩ := HB0.out _ hb2; obtain ⟨q0, g0⟩ := blk hA3; obtain ⟨q1, g1⟩ := blk hA4)
  refine zM (results_lineE rfl _ _ (w.heap.size + 1) (.int .i64 0) (.slice none 0 0) (.int .i64 0) (.slice none 0 0) rfl (by simp [qT, putIn, hA4])) rfl ?_
  refine ⟨fun l' h => (by cases h), fun _ => rfl, ?_⟩
  have := H1.out.trans (hb2.mono hs1)
  ((with_reducible repeat' first | exact zE _ _ | assumption | refine zG ?_ ?_ _ | refine zH ?_ | refine drewN_below ?_ | refine zF ?_ ?_ _) <;> go_size)
 | some l' =>
  go_enter Tryz.func150, Tryz.ntmps150
  go_wp2_with (go_at_call 229; refine HT.out.mono ?_; rintro e w2 ⟨he2, _, hb2⟩; obtain ⟨a', b', rfl, ha', hb'⟩ := he2 _ rfl; obtain ⟨a1, c1, rfl⟩ := ha'.slice; obtain ⟨a2, c2, rfl⟩ := hb'.slice; obtain ⟨hA3, hA4⟩ := HB0.out _ hb2; obtain ⟨q0, g0⟩ := blk hA3; obtain ⟨q1, g1⟩ := blk hA4)
  refine zM (results_lineE rfl _ _ (w.heap.size + 1) (.int .i64 l'.quote) (.slice a1 l'.lists.length c1) (.int .i64 l'.kind) (.slice a2 l'.cells.length c2) rfl (by simp [qT, putIn, hA4])) rfl ?_
  refine ⟨fun l'' h => ?_, fun h => (by cases h), ?_⟩
  ·cases h
   exact ⟨_, _, rfl, (qH (qC _) ha' (by ((with_reducible repeat' first | exact qN _ _ | refine qQ ?_ ?_ _ | refine qO ?_ _ | refine qP ?_) <;> (simp; omega))) (fun b h _ => (by have h' := h; (try simp at h'); omega))), (qH (qC _) hb' (by ((with_reducible repeat' first | exact qN _ _ | refine qQ ?_ ?_ _ | refine qO ?_ _ | refine qP ?_) <;> (simp; omega))) (fun b h _ => (by have h' := h; (try simp at h'); omega)))⟩
  ·have := H1.out.trans (hb2.mono hs1)
   ((with_reducible repeat' first | exact zE _ _ | assumption | refine zG ?_ ?_ _ | refine zH ?_ | refine drewN_below ?_ | refine zF ?_ ?_ _) <;> go_size)
end Go.Proofs.YtcliojeoindceaaGreatDoor
namespace Go.Proofs.Qw
open Go.RowKit Go.Proofs.YtcliojeoindceaaGreatDoor
open _root_.Nat renaming le_refl → zC
open _root_.List renaming getElem?_eq_some_iff → zK, length_append → zS
theorem decode_valid (s : ByteArray) (pos : Nat) : Lib.validRune ((Utf8.decode s pos).1 : Int) = true := by
 rw [← Lib.decodeL_drop]
 exact Lib.rune_valid _
theorem runesGo_valid (s : ByteArray) : ∀ (f pos : Nat), ∀ c ∈ runesGo s f pos, Lib.validRune c = true
 | 0, _, c, h => by simp [runesGo] at h
 | f + 1, pos, c, h => by
  unfold runesGo at h
  split at h
  ·rcases List.mem_cons.1 h with rfl | h
   ·exact decode_valid s pos
   ·exact runesGo_valid s f _ c h
  ·cases h
theorem classF_valid {c : Int} (h : Lib.validRune c = true) : classF c ≠ 0 := by
 unfold classF
 rw [h, if_neg (by decide)]
 (repeat' split) <;> decide
theorem classF_runes (t : ByteArray) : ∀ c ∈ runesB t, classF c ≠ 0 := fun c h => classF_valid (runesGo_valid t _ _ c h)
theorem classF_ge (c : Int) : 0 ≤ classF c := by
 unfold classF
 (repeat' split) <;> decide
theorem classF_32 : classF 32 = 2 := by decide
def cleanR (c : Int) : Option Int := if c = 9 ∨ c = 12 ∨ c = 13 then some 32 else if c = 10 then some 10 else if classF c = 1 then none else some c
def cleanB (t : ByteArray) : List Int := (runesB t).filterMap cleanR
def cellsOf (l : List Int) (b : Int) (h : List UInt8) : List Cel := l.map fun c => ⟨c, b, h⟩
def outS (s : St) : Doc := deleteL s.lines (spanS s).1 (spanS s).2
def endS (x : Doc × Ps × Int) : St × Int := if x.2.2 = 0 then (closedS x.1 x.2.1, 0) else (noS, x.2.2)
def keyS (s : St) (x : Doc × Ps × Int) : St × Int := if mayS s = true then endS x else (noS, 1)
def lineAt (d : Doc) (p : Ps) : Lin := d.getD p.line.toNat default
def headB (l : List Cel) (b : Int) : Int := match l with | [] => b | c :: _ => c.bits
def typB (s : St) : Int := bits .or .i64 (bits .andNot .i64 (headB (cellsD s.lines (spanS s).1 (spanS s).2) (aroundF (lineAt s.lines (spanS s).1).cells (spanS s).1.col.toNat).1) s.off) s.on
def textK (s : St) (t : ByteArray) : Doc × Ps × Int :=
 if 8192 < t.size then ([], (spanS s).1, 10) else if cleanB t = [] then ([], (spanS s).1, 7)
 else insertD (cellsOf (cleanB t) (typB s) (aroundF (lineAt (outS s) (spanS s).1).cells (spanS s).1.col.toNat).2) (outS s) (spanS s).1
def putK (d : Doc) (p : Ps) (r : Option Lin) (x : Doc × Ps × Int) : Doc × Ps × Int := match r with | some l => (d.set p.line.toNat l, p, 0) | none => x
def paraK (s : St) : Doc × Ps × Int :=
 putK (outS s) (spanS s).1 (if (lineAt (outS s) (spanS s).1).cells = [] then outdentL (lineAt (outS s) (spanS s).1) else none) (splitD (outS s) (spanS s).1)
def cutK (d : Doc) (a b p : Ps) : Doc × Ps × Int := ((deleteD d a b).1, p, (deleteD d a b).2)
def backK (s : St) : Doc × Ps × Int :=
 if s.anc = s.foc then
  putK (outS s) (spanS s).1 (if (spanS s).1.col = 0 then freeL (lineAt (outS s) (spanS s).1) else none)
   (if (stepD (outS s) (spanS s).1 (-1)).2 = true then cutK (outS s) (stepD (outS s) (spanS s).1 (-1)).1 (spanS s).1 (stepD (outS s) (spanS s).1 (-1)).1 else ([], (spanS s).1, 7))
 else (outS s, (spanS s).1, 0)
def forthK (s : St) : Doc × Ps × Int :=
 if s.anc = s.foc then
  (if (stepD (outS s) (spanS s).1 1).2 = true then cutK (outS s) (spanS s).1 (stepD (outS s) (spanS s).1 1).1 (spanS s).1 else ([], (spanS s).1, 7))
 else (outS s, (spanS s).1, 0)
theorem span_self {d : Doc} {p : Ps} (hM : mayD d = true) (hp : isD d p = true) : spanD d p p = true := by
 obtain ⟨i, j, l, rfl, hl, hj⟩ := isD_nat hp
 exact span_mk hM hl hl hj hj (zC _) (fun _ => zC _)
theorem out_facts {s : St} (h : mayS s = true) : mayD (outS s) = true ∧ spanD s.lines (spanS s).1 (spanS s).2 = true ∧ isD (outS s) (spanS s).1 = true ∧ deleteD s.lines (spanS s).1 (spanS s).2 = (outS s, 0) ∧ isD s.lines (spanS s).1 = true := by
 have hsp := mayS_span h
 obtain ⟨hM, i, j, p, q, l, m, ha, hb, hl, hm, hp, hq, hij, hpq⟩ := span_at hsp
 have hd : deleteD s.lines (spanS s).1 (spanS s).2 = (outS s, 0) := by unfold deleteD; rw [if_pos hsp]; rfl
 refine ⟨?_, hsp, ?_, hd, ?_⟩
 ·unfold outS; rw [ha, hb]; exact delete_may hM hl hm hp hq hij hpq
 ·unfold outS; rw [ha, hb]
  exact is_mk (d := deleteL s.lines ⟨i, p⟩ ⟨j, q⟩) (l := { l with cells := l.cells.take p ++ m.cells.drop q }) (by rw [delete_get hl hm, if_neg (Nat.lt_irrefl _), if_pos rfl]) (by simp; omega)
 ·rw [ha]; exact is_mk hl hp
theorem step_back {d : Doc} {i j : Nat} {l : Lin} (hl : d[i]? = some l) (hj : j ≤ l.cells.length) :
  stepD d ⟨i, j⟩ (-1) = if 0 < j then (⟨i, j - 1⟩, true) else if i = 0 then (⟨0, 0⟩, false) else (⟨i - 1, ((lineAt d ⟨(i - 1 : Nat), 0⟩).cells.length : Int)⟩, true) := by
 have hi := (zK.1 hl).1
 have hg : (d.getD i default) = l := by rw [List.getD_eq_getElem?_getD, hl]; rfl
 have hn := placesFrom_has d 0 i j hi (by rw [hg]; exact hj)
 rw [Nat.zero_add] at hn
 have hltn : sizeD (d.take i) + i + j < (placesD d).length := (zK.1 hn).1
 rw [stepD_places (show (placesD d)[sizeD (d.take i) + i + j]? = some ⟨(i : Int), (j : Int)⟩ from hn)]
 by_cases h0 : 0 < j
 ·rw [if_pos h0, if_neg (by omega), if_neg (by omega)]
  have h2 := placesFrom_has d 0 i (j - 1) hi (by rw [hg]; omega)
  rw [Nat.zero_add] at h2
  have h3 := atD_some (d := d) (n := sizeD (d.take i) + i + (j - 1)) h2
  rw [show ((sizeD (d.take i) + i + j : Nat) : Int) + -1 = ((sizeD (d.take i) + i + (j - 1) : Nat) : Int) by omega, h3]
  simp only [Prod.mk.injEq, Ps.mk.injEq, and_true, true_and]
  omega
 ·rw [if_neg h0]
  obtain rfl : j = 0 := by omega
  by_cases hi0 : i = 0
  ·subst hi0
   rw [if_pos rfl, if_pos (by simp [sizeD])]
  ·rw [if_neg hi0]
   obtain ⟨n, rfl⟩ : ∃ n, i = n + 1 := ⟨i - 1, by omega⟩
   obtain ⟨m, hm⟩ : ∃ m, d[n]? = some m := ⟨d[n]'(by omega), List.getElem?_eq_getElem (by omega)⟩
   have hgm : (d.getD n default) = m := by rw [List.getD_eq_getElem?_getD, hm]; rfl
   have ht : sizeD (d.take (n + 1)) = sizeD (d.take n) + m.cells.length := by rw [← flatc_len, flat_next hm, zS, flatc_len]
   rw [if_neg (by omega), if_neg (by omega)]
   have h2 := placesFrom_has d 0 n m.cells.length (by omega) (by rw [hgm]; exact zC _)
   rw [Nat.zero_add] at h2
   have h3 := atD_some (d := d) (n := sizeD (d.take n) + n + m.cells.length) h2
   rw [show ((sizeD (d.take (n + 1)) + (n + 1) + 0 : Nat) : Int) + -1 = ((sizeD (d.take n) + n + m.cells.length : Nat) : Int) by rw [ht]; omega, h3]
   have : (lineAt d ⟨((n + 1 - 1 : Nat) : Int), 0⟩) = m := by unfold lineAt; simpa using hgm
   rw [this]
   simp only [Prod.mk.injEq, Ps.mk.injEq, and_true]
   omega
theorem step_forth {d : Doc} {i j : Nat} {l : Lin} (hl : d[i]? = some l) (hj : j ≤ l.cells.length) :
  stepD d ⟨i, j⟩ 1 = if j < l.cells.length then (⟨i, j + 1⟩, true) else if i + 1 < d.length then (⟨i + 1, 0⟩, true) else (endD d, false) := by
 have hi := (zK.1 hl).1
 have hg : (d.getD i default) = l := by rw [List.getD_eq_getElem?_getD, hl]; rfl
 have hn := placesFrom_has d 0 i j hi (by rw [hg]; exact hj)
 rw [Nat.zero_add] at hn
 rw [stepD_places (show (placesD d)[sizeD (d.take i) + i + j]? = some ⟨(i : Int), (j : Int)⟩ from hn), if_neg (by omega)]
 by_cases h0 : j < l.cells.length
 ·rw [if_pos h0]
  have h2 := placesFrom_has d 0 i (j + 1) hi (by rw [hg]; omega)
  rw [Nat.zero_add] at h2
  have hlt := (zK.1 h2).1
  have h3 := atD_some (d := d) (n := sizeD (d.take i) + i + (j + 1)) h2
  rw [if_neg (by unfold placesD; omega), show ((sizeD (d.take i) + i + j : Nat) : Int) + 1 = ((sizeD (d.take i) + i + (j + 1) : Nat) : Int) by omega, h3]
  simp only [Prod.mk.injEq, Ps.mk.injEq, and_true, true_and]
  omega
 ·rw [if_neg h0]
  obtain rfl : j = l.cells.length := by omega
  have ht : sizeD (d.take (i + 1)) = sizeD (d.take i) + l.cells.length := by rw [← flatc_len, flat_next hl, zS, flatc_len]
  by_cases h1 : i + 1 < d.length
  ·rw [if_pos h1]
   have h2 := placesFrom_has d 0 (i + 1) 0 h1 (Nat.zero_le _)
   rw [Nat.zero_add] at h2
   have hlt := (zK.1 h2).1
   have h3 := atD_some (d := d) (n := sizeD (d.take (i + 1)) + (i + 1) + 0) h2
   rw [if_neg (by unfold placesD; omega), show ((sizeD (d.take i) + i + l.cells.length : Nat) : Int) + 1 = ((sizeD (d.take (i + 1)) + (i + 1) + 0 : Nat) : Int) by omega, h3]
   simp
  ·rw [if_neg h1]
   rw [if_pos]
   have hlast := places_last (d := d) (by intro e; rw [e] at hi; cases hi)
   have hE : endD d = ⟨i, l.cells.length⟩ := end_at (by omega) hl
   rw [hE] at hlast
   have hoff := places_off hlast
   have hoff2 := places_off (show (placesD d)[sizeD (d.take i) + i + l.cells.length]? = some ⟨(i : Int), (l.cells.length : Int)⟩ from hn)
   rw [hoff] at hoff2
   have := congrArg Prod.fst hoff2
   simp only at this
   have hlt := (zK.1 hlast).1
   omega
theorem key_may {s : St} (h : mayS s = true) (x : Doc × Ps × Int) : keyS s x = endS x := by unfold keyS; rw [if_pos h]
theorem text_law {s : St} (h : mayS s = true) (t : ByteArray) : keyS s (textK s t) = if 8192 < t.size then (noS, 10) else if cleanB t = [] then (noS, 7) else
  endS (insertD (cellsOf (cleanB t) (typB s) (aroundF (lineAt (outS s) (spanS s).1).cells (spanS s).1.col.toNat).2) (outS s) (spanS s).1) := by
 rw [key_may h]
 unfold textK
 split
 ·rfl
 ·split <;> rfl
theorem lineAt_eq {d : Doc} {i : Nat} {l : Lin} (hl : d[i]? = some l) (j : Int) : lineAt d ⟨i, j⟩ = l := by
 unfold lineAt
 simp only [Int.toNat_natCast]
 rw [List.getD_eq_getElem?_getD, hl]
 rfl
def KeyOk (x : St × Int) : Prop := (x.2 = 0 ∧ ∃ d p, x.1 = closedS d p ∧ mayD d = true ∧ isD d p = true) ∨ (x.1 = noS ∧ (x.2 = 7 ∨ x.2 = 10))
theorem closed_may {d : Doc} {p : Ps} (h : mayD d = true) (hp : isD d p = true) : mayS (closedS d p) = true := by
 unfold mayS closedS
 simp only [h, hp, Bool.true_and]
 decide
theorem key_ok {d : Doc} {p : Ps} (h : mayD d = true) (hp : isD d p = true) : KeyOk (closedS d p, 0) := .inl ⟨rfl, d, p, rfl, h, hp⟩
theorem key_off {e : Int} (h : e = 7 ∨ e = 10) : KeyOk (noS, e) := .inr ⟨rfl, h⟩
theorem clean_may (t : ByteArray) : ∀ c ∈ cleanB t, (mayR c || decide (c = 10)) = true := by
 intro c hc
 unfold cleanB at hc
 obtain ⟨x, hx, he⟩ := List.mem_filterMap.1 hc
 have h0 := classF_runes t x hx
 have h1 := classF_ge x
 unfold cleanR at he
 split at he
 ·cases he
  rw [Bool.or_eq_true]
  exact .inl (by unfold mayR; rw [classF_32]; rfl)
 ·split at he
  ·cases he; rw [Bool.or_eq_true]; exact .inr rfl
  ·split at he
   ·cases he
   ·cases he
    rw [Bool.or_eq_true]
    exact .inl (by unfold mayR; rw [decide_eq_true_eq]; omega)
theorem cellsOf_may {t : ByteArray} {b : Int} {h : List UInt8} (hb : 0 ≤ b ∧ b ≤ 15) (hh : linkF h = true) : mayCs (cellsOf (cleanB t) b h) = true := by
 unfold mayCs cellsOf
 rw [List.all_eq_true]
 intro x hx
 obtain ⟨c, hc, rfl⟩ := List.mem_map.1 hx
 unfold mayC
 simp only [clean_may t c hc, hb.1, hb.2, hh, decide_true, Bool.and_self]
theorem around_link {l : List Cel} (h : mayCs l = true) {k : Nat}  : linkF (aroundF l k).2 = true := by
 unfold aroundF
 simp only
 split
 ·rename_i h1
  have hm : (l.getD (k - 1) default) ∈ l := by
   rw [List.getD_eq_getElem?_getD, List.getElem?_eq_getElem (show k - 1 < l.length by omega)]
   exact List.getElem_mem _
  have := List.all_eq_true.1 h _ hm
  unfold mayC at this
  simp only [Bool.and_eq_true] at this
  exact this.2
 ·rfl
theorem may_at {d : Doc} {p : Ps} (h : mayD d = true) (hp : isD d p = true) : ∃ (i j : Nat) (l : Lin), p = ⟨i, j⟩ ∧ d[i]? = some l ∧ j ≤ l.cells.length ∧ mayL l = true ∧ lineAt d p = l := by
 obtain ⟨i, j, l, rfl, hl, hj⟩ := isD_nat hp
 exact ⟨i, j, l, rfl, hl, hj, (mayD_iff.1 h).2.2.2 l (mem_of_at hl), lineAt_eq hl _⟩
theorem or_rng (x off on : Int) (hx : 0 ≤ x ∧ x ≤ 15) (hf : 0 ≤ off ∧ off ≤ 15) (ho : 0 ≤ on ∧ on ≤ 15) : 0 ≤ bits .or .i64 (bits .andNot .i64 x off) on ∧ bits .or .i64 (bits .andNot .i64 x off) on ≤ 15 := by
 obtain ⟨on, rfl⟩ := Int.eq_ofNat_of_zero_le ho.1
 obtain ⟨off, rfl⟩ := Int.eq_ofNat_of_zero_le hf.1
 obtain ⟨x, rfl⟩ := Int.eq_ofNat_of_zero_le hx.1
 have H : ∀ x off on : Fin 16, 0 ≤ bits .or .i64 (bits .andNot .i64 (x.val : Int) (off.val : Int)) (on.val : Int) ∧ bits .or .i64 (bits .andNot .i64 (x.val : Int) (off.val : Int)) (on.val : Int) ≤ 15 := by decide +kernel
 exact H ⟨x, by omega⟩ ⟨off, by omega⟩ ⟨on, by omega⟩
theorem typB_rng {s : St} (h : mayS s = true) (hr : RngS s) : 0 ≤ typB s ∧ typB s ≤ 15 := by
 obtain ⟨_, hsp, _, _, hi⟩ := out_facts h
 have hM := (mayS_at h).1
 refine or_rng _ _ _ ?_ hr.2 hr.1
 cases hc : cellsD s.lines (spanS s).1 (spanS s).2 with
 | nil =>
  obtain ⟨i, j, l, hp, hl, hj, hml, he⟩ := may_at hM hi
  unfold headB
  simp only
  rw [he, hp]
  exact around_rng (mayL_has hml) (by simpa using hj)
 | cons c l => exact cells_bits hM c (by rw [hc]; exact List.mem_cons_self)
theorem span_is {d : Doc} {a b : Ps} (h : spanD d a b = true) : isD d a = true ∧ isD d b = true := by
 unfold spanD at h
 simp only [Bool.and_eq_true] at h
 exact ⟨h.1.1.2, h.1.2⟩
theorem deleteD_ok {d e : Doc} {a b : Ps} (h : deleteD d a b = (e, 0)) : spanD d a b = true := by
 unfold deleteD at h
 split at h
 ·assumption
 ·cases h
theorem end_ok {x : Doc × Ps × Int} (h : (x.2.2 = 0 ∧ mayD x.1 = true ∧ isD x.1 x.2.1 = true) ∨ x.2.2 = 7 ∨ x.2.2 = 10) : KeyOk (endS x) := by
 unfold endS
 rcases h with ⟨h0, h1, h2⟩ | h
 ·rw [if_pos h0]; exact key_ok h1 h2
 ·rw [if_neg (by omega)]; exact key_off h
theorem insert_ok {d : Doc} {p : Ps} {more : List Cel} (h : mayD d = true) (hp : isD d p = true) (hm : mayCs more = true) : ((insertD more d p).2.2 = 0 ∧ mayD (insertD more d p).1 = true ∧ isD (insertD more d p).1 (insertD more d p).2.1 = true) ∨ (insertD more d p).2.2 = 7 ∨ (insertD more d p).2.2 = 10 := by
 by_cases h0 : (insertD more d p).2.2 = 0
 ·obtain ⟨h1, _, h2⟩ := insert_back (more := more) (d := d) (a := p) (x := (insertD more d p).1) (p := (insertD more d p).2.1) (by rw [← h0])
  exact .inl ⟨h0, h1, (span_is (deleteD_ok h2)).2⟩
 ·refine .inr (.inr ?_)
  unfold insertD at h0 ⊢
  rw [if_pos (by rw [span_self h hp, hm]; rfl)] at h0 ⊢
  split
  ·rfl
  ·rename_i h3
   rw [if_neg h3] at h0
   exact absurd rfl h0
theorem split_ok {d : Doc} {p : Ps} (h : mayD d = true) (hp : isD d p = true) : ((splitD d p).2.2 = 0 ∧ mayD (splitD d p).1 = true ∧ isD (splitD d p).1 (splitD d p).2.1 = true) ∨ (splitD d p).2.2 = 7 ∨ (splitD d p).2.2 = 10 := by
 by_cases h0 : (splitD d p).2.2 = 0
 ·obtain ⟨h1, _, h2⟩ := split_back (d := d) (a := p) (x := (splitD d p).1) (p := (splitD d p).2.1) (by rw [← h0])
  exact .inl ⟨h0, h1, (span_is (deleteD_ok h2)).2⟩
 ·refine .inr (.inr ?_)
  unfold splitD at h0 ⊢
  rw [if_pos (span_self h hp)] at h0 ⊢
  split
  ·rfl
  ·rename_i h3
   rw [if_neg h3] at h0
   exact absurd rfl h0
theorem mayL_mk {l : Lin} (h1 : 0 ≤ l.quote) (h2 : l.quote ≤ 6) (h3 : l.lists.length ≤ 6) (h4 : 0 ≤ l.kind) (h5 : l.kind ≤ 3) (h6 : l.lists = [] ∨ l.kind = 0) (h7 : ∀ k ∈ l.lists, k = 0 ∨ k = 1) (h8 : mayCs l.cells = true) : mayL l = true := by
 unfold mayL
 simp only [Bool.and_eq_true, Bool.or_eq_true, decide_eq_true_eq, List.all_eq_true]
 exact ⟨⟨⟨⟨⟨⟨⟨h1, h2⟩, h3⟩, h4⟩, h5⟩, h6⟩, h7⟩, h8⟩
theorem mayL_parts {l : Lin} (h : mayL l = true) : 0 ≤ l.quote ∧ l.quote ≤ 6 ∧ l.lists.length ≤ 6 ∧ 0 ≤ l.kind ∧ l.kind ≤ 3 ∧ (l.lists = [] ∨ l.kind = 0) ∧ (∀ k ∈ l.lists, k = 0 ∨ k = 1) ∧ mayCs l.cells = true := by
 unfold mayL at h
 simp only [Bool.and_eq_true, Bool.or_eq_true, decide_eq_true_eq, List.all_eq_true] at h
 obtain ⟨⟨⟨⟨⟨⟨⟨h1, h2⟩, h3⟩, h4⟩, h5⟩, h6⟩, h7⟩, h8⟩ := h
 exact ⟨h1, h2, h3, h4, h5, h6, h7, h8⟩
theorem outdent_ok {l l' : Lin} (h : mayL l = true) (he : outdentL l = some l') : mayL l' = true ∧ l'.cells = l.cells := by
 obtain ⟨h1, h2, h3, h4, h5, h6, h7, h8⟩ := mayL_parts h
 unfold outdentL at he
 split at he
 ·rename_i hne
  cases he
  exact ⟨mayL_mk h1 h2 (by simp only [List.length_dropLast]; omega) h4 h5 (.inr (h6.resolve_left hne)) (fun k hk => h7 k (List.dropLast_subset _ hk)) h8, rfl⟩
 ·split at he
  ·cases he
   exact ⟨mayL_mk (by simp only; omega) (by simp only; omega) h3 h4 h5 h6 h7 h8, rfl⟩
  ·cases he
theorem free_ok {l l' : Lin} (h : mayL l = true) (he : freeL l = some l') : mayL l' = true ∧ l'.cells = l.cells := by
 obtain ⟨h1, h2, h3, h4, h5, h6, h7, h8⟩ := mayL_parts h
 unfold freeL at he
 split at he
 ·rename_i hne
  cases he
  exact ⟨mayL_mk h1 h2 (by simp only [List.length_dropLast]; omega) h4 h5 (.inr (h6.resolve_left hne)) (fun k hk => h7 k (List.dropLast_subset _ hk)) h8, rfl⟩
 ·split at he
  ·cases he
   exact ⟨mayL_mk h1 h2 h3 (Int.le_refl 0) (show (0 : Int) ≤ 3 by decide) (.inr rfl) h7 h8, rfl⟩
  ·split at he
   ·cases he
    exact ⟨mayL_mk (by simp only; omega) (by simp only; omega) h3 h4 h5 h6 h7 h8, rfl⟩
   ·cases he
theorem set_may {d : Doc} {i : Nat} {l l' : Lin} (hM : mayD d = true) (hl : d[i]? = some l) (h : mayL l' = true) (hc : l'.cells = l.cells) : mayD (d.set i l') = true ∧ ∀ j : Nat, j ≤ l.cells.length → isD (d.set i l') ⟨i, j⟩ = true := by
 obtain ⟨a1, a2, a3, a4⟩ := mayD_iff.1 hM
 have hi := (zK.1 hl).1
 refine ⟨mayD_iff.2 ⟨by simpa using a1, by simpa using a2, ?_, fun x hx => ?_⟩, fun j hj => is_mk (l := l') (by rw [List.getElem?_set_self hi]) (by rw [hc]; exact hj)⟩
 ·rw [set_at hl, flat_append, flat_append, flat_one, hc, ← flat_one l, ← flat_append, ← flat_append, set_self hl]
  exact a3
 ·rcases List.mem_or_eq_of_mem_set hx with hx | rfl
  ·exact a4 x hx
  ·exact h
theorem put_ok {d : Doc} {p : Ps} {r : Option Lin} {x : Doc × Ps × Int} (hM : mayD d = true) (hp : isD d p = true) (hr : ∀ l', r = some l' → mayL l' = true ∧ l'.cells = (lineAt d p).cells)
  (hx : (x.2.2 = 0 ∧ mayD x.1 = true ∧ isD x.1 x.2.1 = true) ∨ x.2.2 = 7 ∨ x.2.2 = 10) : ((putK d p r x).2.2 = 0 ∧ mayD (putK d p r x).1 = true ∧ isD (putK d p r x).1 (putK d p r x).2.1 = true) ∨ (putK d p r x).2.2 = 7 ∨ (putK d p r x).2.2 = 10 := by
 cases r with
 | none => exact hx
 | some l' =>
  obtain ⟨i, j, l, rfl, hl, hj, hml, he⟩ := may_at hM hp
  obtain ⟨h1, h2⟩ := hr l' rfl
  rw [he] at h2
  obtain ⟨k1, k2⟩ := set_may hM hl h1 h2
  exact .inl ⟨rfl, by simpa [putK] using k1, by simpa [putK] using k2 j hj⟩
theorem cut_ok {d : Doc} {a b p : Ps} (h : spanD d a b = true) (hp : p = a) : ((cutK d a b p).2.2 = 0 ∧ mayD (cutK d a b p).1 = true ∧ isD (cutK d a b p).1 (cutK d a b p).2.1 = true) ∨ (cutK d a b p).2.2 = 7 ∨ (cutK d a b p).2.2 = 10 := by
 subst hp
 obtain ⟨hM, i, j, x, y, l, m, rfl, rfl, hl, hm, hp, hq, hij, hpq⟩ := span_at h
 unfold cutK deleteD
 rw [if_pos h]
 exact .inl ⟨rfl, delete_may hM hl hm hp hq hij hpq, is_mk (d := deleteL d ⟨i, x⟩ ⟨j, y⟩) (l := { l with cells := l.cells.take x ++ m.cells.drop y }) (by rw [delete_get hl hm, if_neg (Nat.lt_irrefl _), if_pos rfl]) (by simp; omega)⟩
theorem text_ok {s : St} (h : mayS s = true) (hr : RngS s) (t : ByteArray) : KeyOk (keyS s (textK s t)) := by
 obtain ⟨h1, _, h3, _, _⟩ := out_facts h
 rw [text_law h]
 split
 ·exact key_off (.inr rfl)
 ·split
  ·exact key_off (.inl rfl)
  ·obtain ⟨i, j, l, hp, hl, hj, hml, he⟩ := may_at h1 h3
   refine end_ok (insert_ok h1 h3 (cellsOf_may (typB_rng h hr) ?_))
   rw [he, hp]
   exact around_link (mayL_has hml)
theorem para_ok {s : St} (h : mayS s = true) : KeyOk (keyS s (paraK s)) := by
 obtain ⟨h1, _, h3, _, _⟩ := out_facts h
 rw [key_may h]
 refine end_ok (put_ok h1 h3 (fun l' hl' => ?_) (split_ok h1 h3))
 obtain ⟨i, j, l, hp, hl, hj, hml, he⟩ := may_at h1 h3
 split at hl'
 ·rw [he] at hl' ⊢
  exact outdent_ok hml hl'
 ·cases hl'
theorem step_span {d : Doc} {p : Ps} (hM : mayD d = true) (hp : isD d p = true) : ((stepD d p (-1)).2 = true → spanD d (stepD d p (-1)).1 p = true) ∧ ((stepD d p 1).2 = true → spanD d p (stepD d p 1).1 = true) := by
 obtain ⟨i, j, l, rfl, hl, hj, _, _⟩ := may_at hM hp
 have hi := (zK.1 hl).1
 constructor
 ·intro h
  rw [step_back hl hj] at h ⊢
  by_cases h0 : 0 < j
  ·rw [if_pos h0, show ((j : Int) - 1) = ((j - 1 : Nat) : Int) by omega]
   exact span_mk hM hl hl (by omega) hj (zC _) (fun _ => by omega)
  ·rw [if_neg h0] at h ⊢
   by_cases h1 : i = 0
   ·rw [if_pos h1] at h; cases h
   ·rw [if_neg h1]
    obtain ⟨n, rfl⟩ : ∃ n, i = n + 1 := ⟨i - 1, by omega⟩
    obtain ⟨m, hm⟩ : ∃ m, d[n]? = some m := ⟨d[n]'(by omega), List.getElem?_eq_getElem (by omega)⟩
    simp only [Nat.add_sub_cancel, lineAt_eq hm]
    rw [show (((n + 1 : Nat) : Int) - 1) = (n : Int) by omega]
    exact span_mk hM hm hl (zC _) hj (by omega) (fun e => by omega)
 ·intro h
  rw [step_forth hl hj] at h ⊢
  by_cases h0 : j < l.cells.length
  ·rw [if_pos h0, show ((j : Int) + 1) = ((j + 1 : Nat) : Int) by omega]
   exact span_mk hM hl hl hj (by omega) (zC _) (fun _ => by omega)
  ·rw [if_neg h0] at h ⊢
   by_cases h1 : i + 1 < d.length
   ·rw [if_pos h1]
    obtain ⟨m, hm⟩ : ∃ m, d[i + 1]? = some m := ⟨d[i + 1]'h1, List.getElem?_eq_getElem h1⟩
    rw [show ((i : Int) + 1) = ((i + 1 : Nat) : Int) by omega]
    exact span_mk hM hl hm hj (Nat.zero_le _) (by omega) (fun e => by omega)
   ·rw [if_neg h1] at h; cases h
theorem back_ok {s : St} (h : mayS s = true) : KeyOk (keyS s (backK s)) := by
 obtain ⟨h1, _, h3, _, _⟩ := out_facts h
 rw [key_may h]
 unfold backK
 split
 ·refine end_ok (put_ok h1 h3 (fun l' hl' => ?_) ?_)
  ·obtain ⟨i, j, l, hp, hl, hj, hml, he⟩ := may_at h1 h3
   split at hl'
   ·rw [he] at hl' ⊢
    exact free_ok hml hl'
   ·cases hl'
  ·split
   ·rename_i h5
    exact cut_ok ((step_span h1 h3).1 h5) rfl
   ·exact .inr (.inl rfl)
 ·exact end_ok (.inl ⟨rfl, h1, h3⟩)
theorem forth_ok {s : St} (h : mayS s = true) : KeyOk (keyS s (forthK s)) := by
 obtain ⟨h1, _, h3, _, _⟩ := out_facts h
 rw [key_may h]
 unfold forthK
 split
 ·refine end_ok ?_
  split
  ·rename_i h5
   exact cut_ok ((step_span h1 h3).2 h5) rfl
  ·exact .inr (.inl rfl)
 ·exact end_ok (.inl ⟨rfl, h1, h3⟩)
def formatL (k : Int) (l : Lin) : Option Lin := if l.lists ≠ [] ∨ l.kind = k then none else some { l with kind := k }
def indentL (l : Lin) : Option Lin := if l.lists ≠ [] then (if l.lists.length = 6 then none else some { l with lists := l.lists ++ [lastF l.lists] }) else if l.quote = 6 then none else some { l with quote := l.quote + 1 }
def listL (k : Int) (l : Lin) : Option Lin := if l.lists = [] then some { l with lists := [k], kind := 0 } else if lastF l.lists = k then none else some { l with lists := l.lists.dropLast ++ [k] }
def listedL (k : Int) (l : Lin) : Bool := decide (l.lists ≠ []) && decide (lastF l.lists = k)
def selI (s : St) (i : Nat) : Bool := decide ((spanS s).1.line ≤ i) && decide ((i : Int) ≤ (spanS s).2.line)
def turnTo (f : Lin → Option Lin) (s : St) (k : Nat) : Doc := s.lines.mapIdx fun i l => if (selI s i && decide (i < k)) = true then (f l).getD l else l
def turnD (f : Lin → Option Lin) (s : St) : Doc := turnTo f s s.lines.length
def anyTo (p : Lin → Bool) (s : St) (k : Nat) : Bool := (List.range k).any fun i => selI s i && p (s.lines.getD i default)
def allTo (p : Lin → Bool) (s : St) (k : Nat) : Bool := (List.range k).all fun i => !selI s i || p (s.lines.getD i default)
def eachB (f : Lin → Option Lin) (s : St) : St × Int := if mayS s = true then (if anyTo (fun l => (f l).isSome) s s.lines.length = true then (⟨turnD f s, s.anc, s.foc, 0, 0⟩, 0) else (noS, 7)) else (noS, 1)
def listedB (k : Int) (s : St) : Bool × Bool := if mayS s = true then (allTo (listedL k) s s.lines.length, anyTo (listedL k) s s.lines.length) else (false, false)
def formatB (k : Int) (s : St) : St × Int := if k < 0 ∨ 3 < k then (noS, 1) else eachB (formatL k) s
def listB (k : Int) (s : St) : St × Int := if k ≠ 0 ∧ k ≠ 1 then (noS, 1) else if (listedB k s).1 = true then eachB outdentL s else eachB (listL k) s
def kindB (s : St) : Option Int := if mayS s = true then (if allTo (fun l => decide (l.lists = []) && decide (l.kind = (lineAt s.lines (spanS s).1).kind)) s s.lines.length = true then some (lineAt s.lines (spanS s).1).kind else none) else none
theorem turn_len (f : Lin → Option Lin) (s : St) (k : Nat) : (turnTo f s k).length = s.lines.length := by unfold turnTo; simp
theorem turn_at {f : Lin → Option Lin} {s : St} {k i : Nat} {l : Lin} (hl : s.lines[i]? = some l) : (turnTo f s k)[i]? = some (if (selI s i && decide (i < k)) = true then (f l).getD l else l) := by
 unfold turnTo
 rw [List.getElem?_mapIdx, hl]
 rfl
theorem turn_next {f : Lin → Option Lin} {s : St} {k : Nat} {l : Lin} (hl : s.lines[k]? = some l) : turnTo f s (k + 1) = if selI s k = true then (turnTo f s k).set k ((f l).getD l) else turnTo f s k := by
 apply List.ext_getElem?
 intro i
 have hk := (zK.1 hl).1
 by_cases hi : i < s.lines.length
 ·obtain ⟨m, hm⟩ : ∃ m, s.lines[i]? = some m := ⟨s.lines[i], List.getElem?_eq_getElem hi⟩
  rw [turn_at hm]
  by_cases e : i = k
  ·subst e
   rw [hl] at hm
   cases hm
   by_cases hs : selI s i = true
   ·rw [if_pos hs, List.getElem?_set_self (by rw [turn_len]; exact hk)]
    simp [hs]
   ·rw [if_neg hs, turn_at hl]
    simp [hs]
  ·have h1 : decide (i < k + 1) = decide (i < k) := by
    by_cases h : i < k
    ·simp [h]; omega
    ·simp [h]; omega
   by_cases hs : selI s k = true
   ·rw [if_pos hs, List.getElem?_set_ne (by omega), turn_at hm, h1]
   ·rw [if_neg hs, turn_at hm, h1]
 ·rw [List.getElem?_eq_none (by rw [turn_len]; omega)]
  split
  ·rw [List.getElem?_eq_none (by rw [List.length_set, turn_len]; omega)]
  ·rw [List.getElem?_eq_none (by rw [turn_len]; omega)]
theorem any_next (p : Lin → Bool) {s : St} {k : Nat} {l : Lin} (hl : s.lines[k]? = some l) : anyTo p s (k + 1) = (anyTo p s k || (selI s k && p l)) := by
 unfold anyTo
 rw [List.range_succ, List.any_append]
 simp [List.getD_eq_getElem?_getD, hl]
theorem all_next (p : Lin → Bool) {s : St} {k : Nat} {l : Lin} (hl : s.lines[k]? = some l) : allTo p s (k + 1) = (allTo p s k && (!selI s k || p l)) := by
 unfold allTo
 rw [List.range_succ, List.all_append]
 simp [List.getD_eq_getElem?_getD, hl]
def Turns (f : Lin → Option Lin) : Prop := ∀ l l', mayL l = true → f l = some l' → mayL l' = true ∧ l'.cells = l.cells
theorem turn_may {f : Lin → Option Lin} (hf : Turns f) {s : St} (hm : mayS s = true) (k : Nat) : mayS ⟨turnTo f s k, s.anc, s.foc, 0, 0⟩ = true := by
 obtain ⟨hM, hA, hF, _⟩ := mayS_at hm
 obtain ⟨h1, h2, h3, h4⟩ := mayD_iff.1 hM
 have hc : ∀ (i : Nat) (l : Lin), s.lines[i]? = some l → ∃ l' : Lin, (turnTo f s k)[i]? = some l' ∧ mayL l' = true ∧ l'.cells = l.cells := fun i l hl => by
  have hml := h4 l (mem_of_at hl)
  refine ⟨_, turn_at hl, ?_⟩
  split
  ·cases h : f l with
   | none => exact ⟨hml, rfl⟩
   | some l' => exact hf l l' hml h
  ·exact ⟨hml, rfl⟩
 have hsz : flat (turnTo f s k) = flat s.lines := by
  have e : (turnTo f s k).map (·.cells) = s.lines.map (·.cells) := by
   apply List.ext_getElem?
   intro i
   rw [List.getElem?_map, List.getElem?_map]
   cases hl : s.lines[i]? with
   | none =>
    rw [List.getElem?_eq_none (by rw [turn_len]; exact List.getElem?_eq_none_iff.1 hl)]
   | some l =>
    obtain ⟨l', e1, _, e2⟩ := hc i l hl
    rw [e1]
    simp [e2]
  unfold flat
  rw [List.flatMap_def, List.flatMap_def, e]
 have hM' : mayD (turnTo f s k) = true := by
  refine mayD_iff.2 ⟨by rw [turn_len]; exact h1, by rw [turn_len]; exact h2, by rw [hsz]; exact h3, fun l' hl' => ?_⟩
  obtain ⟨i, hi⟩ := List.getElem?_of_mem hl'
  obtain ⟨l, hl⟩ : ∃ l, s.lines[i]? = some l := by
   have := (zK.1 hi).1
   rw [turn_len] at this
   exact ⟨s.lines[i], List.getElem?_eq_getElem this⟩
  obtain ⟨l2, e1, e2, _⟩ := hc i l hl
  rw [hi] at e1
  cases e1
  exact e2
 have hI : ∀ p, isD s.lines p = true → isD (turnTo f s k) p = true := fun p hp => by
  obtain ⟨i, j, l, rfl, hl, hj⟩ := isD_nat hp
  obtain ⟨l', e1, _, e2⟩ := hc i l hl
  exact is_mk e1 (by rw [e2]; exact hj)
 unfold mayS
 simp only [hM', hI _ hA, hI _ hF, Bool.true_and]
 decide
theorem format_turns {k : Int} (hk : 0 ≤ k ∧ k ≤ 3) : Turns (formatL k) := fun l l' hm h => by
 unfold formatL at h
 split at h
 ·cases h
 ·rename_i h2
  cases h
  refine ⟨?_, rfl⟩
  unfold mayL at hm ⊢
  simp only [Bool.and_eq_true, Bool.or_eq_true, decide_eq_true_eq, List.all_eq_true] at hm ⊢
  obtain ⟨⟨⟨⟨⟨⟨⟨a1, a2⟩, a3⟩, a4⟩, a5⟩, a6⟩, a7⟩, a8⟩ := hm
  have : l.lists = [] := by simpa using fun e => h2 (.inl e)
  exact ⟨⟨⟨⟨⟨⟨⟨a1, a2⟩, a3⟩, hk.1⟩, hk.2⟩, .inl (by first | exact this | simp [this])⟩, a7⟩, a8⟩
theorem mayL_of {l : Lin} (h : 0 ≤ l.quote ∧ l.quote ≤ 6 ∧ l.lists.length ≤ 6 ∧ 0 ≤ l.kind ∧ l.kind ≤ 3 ∧ (l.lists = [] ∨ l.kind = 0) ∧ (∀ k ∈ l.lists, k = 0 ∨ k = 1) ∧ mayCs l.cells = true) : mayL l = true := by
 obtain ⟨h1, h2, h3, h4, h5, h6, h7, h8⟩ := h
 unfold mayL
 simp only [Bool.and_eq_true, Bool.or_eq_true, decide_eq_true_eq, List.all_eq_true]
 exact ⟨⟨⟨⟨⟨⟨⟨h1, h2⟩, h3⟩, h4⟩, h5⟩, h6⟩, h7⟩, h8⟩
theorem lastF_mem {l : List Int} (h : l ≠ []) : lastF l ∈ l := by
 unfold lastF
 rw [List.getLastD_eq_getLast?, List.getLast?_eq_some_getLast h]
 exact List.getLast_mem h
theorem indent_turns : Turns indentL := fun l l' hm h => by
 obtain ⟨h1, h2, h3, h4, h5, h6, h7, h8⟩ := mayL_parts hm
 unfold indentL at h
 split at h
 ·rename_i hn
  split at h
  ·cases h
  ·rename_i h9
   cases h
   refine ⟨mayL_of ⟨h1, h2, by simp; omega, h4, h5, .inr (h6.resolve_left hn), fun k hk => ?_, h8⟩, rfl⟩
   rcases List.mem_append.1 hk with hk | hk
   ·exact h7 k hk
   ·rw [List.mem_singleton.1 hk]
    exact h7 _ (lastF_mem hn)
 ·split at h
  ·cases h
  ·rename_i hn h9
   cases h
   exact ⟨mayL_of ⟨by show 0 ≤ l.quote + 1; omega, by show l.quote + 1 ≤ 6; omega, h3, h4, h5, h6, h7, h8⟩, rfl⟩
theorem list_turns {k : Int} (hk : k = 0 ∨ k = 1) : Turns (listL k) := fun l l' hm h => by
 obtain ⟨h1, h2, h3, h4, h5, h6, h7, h8⟩ := mayL_parts hm
 unfold listL at h
 split at h
 ·cases h
  refine ⟨mayL_of ⟨h1, h2, (by show 1 ≤ 6; omega), Int.le_refl 0, (by decide : (0 : Int) ≤ 3), .inr rfl, fun x hx => ?_, h8⟩, rfl⟩
  rw [List.mem_singleton.1 hx]
  exact hk
 ·rename_i hn
  split at h
  ·cases h
  ·cases h
   refine ⟨mayL_of ⟨h1, h2, ?_, h4, h5, .inr (h6.resolve_left hn), fun x hx => ?_, h8⟩, rfl⟩
   ·show (l.lists.dropLast ++ [k]).length ≤ 6
    have := List.length_pos_iff.2 hn
    simp
    omega
   ·rcases List.mem_append.1 hx with hx | hx
    ·exact h7 x ((List.dropLast_sublist _).subset hx)
    ·rw [List.mem_singleton.1 hx]
     exact hk
theorem outdent_turns : Turns outdentL := fun l l' hm h => by
 obtain ⟨h1, h2, h3, h4, h5, h6, h7, h8⟩ := mayL_parts hm
 unfold outdentL at h
 split at h
 ·rename_i hn
  cases h
  exact ⟨mayL_of ⟨h1, h2, by show l.lists.dropLast.length ≤ 6; rw [List.length_dropLast]; omega, h4, h5, .inr (h6.resolve_left hn), fun x hx => h7 x ((List.dropLast_sublist _).subset hx), h8⟩, rfl⟩
 ·split at h
  ·cases h
   exact ⟨mayL_of ⟨by show 0 ≤ l.quote - 1; omega, by show l.quote - 1 ≤ 6; omega, h3, h4, h5, h6, h7, h8⟩, rfl⟩
  ·cases h
def BlkOn (s : St) (x : St × Int) : Prop := (x.2 = 0 ∧ mayS x.1 = true ∧ x.1.anc = s.anc ∧ x.1.foc = s.foc ∧ x.1.on = 0 ∧ x.1.off = 0) ∨ (x.1 = noS ∧ (x.2 = 7 ∨ x.2 = 1))
theorem each_on {f : Lin → Option Lin} (hf : Turns f) {s : St} (hm : mayS s = true) : BlkOn s (eachB f s) := by
 unfold eachB
 rw [if_pos hm]
 split
 ·exact .inl ⟨rfl, turn_may hf hm _, rfl, rfl, rfl, rfl⟩
 ·exact .inr ⟨rfl, .inl rfl⟩
theorem format_on {s : St} (hm : mayS s = true) (k : Int) : BlkOn s (formatB k s) := by
 unfold formatB
 split
 ·exact .inr ⟨rfl, .inr rfl⟩
 ·exact each_on (format_turns (by omega)) hm
theorem listB_on {s : St} (hm : mayS s = true) (k : Int) : BlkOn s (listB k s) := by
 unfold listB
 split
 ·exact .inr ⟨rfl, .inr rfl⟩
 ·rename_i h
  split
  ·exact each_on outdent_turns hm
  ·exact each_on (list_turns (by omega)) hm
theorem all_iff {p : Lin → Bool} {s : St} {k : Nat} : allTo p s k = true ↔ ∀ i, i < k → selI s i = true → p (s.lines.getD i default) = true := by
 unfold allTo
 simp only [List.all_eq_true, List.mem_range, Bool.or_eq_true, Bool.not_eq_true']
 constructor
 ·intro h i hi hs
  rcases h i hi with h | h
  ·rw [hs] at h; cases h
  ·exact h
 ·intro h i hi
  cases hs : selI s i
  ·exact .inl rfl
  ·exact .inr (h i hi hs)
theorem list_is {k : Int} {s : St} {X : St} (hm : mayS s = true) (h0 : (listedB k s).1 = false) (h : listB k s = (X, 0)) : (listedB k X).1 = true := by
 unfold listB at h
 split at h
 ·cases h
 ·rename_i hk
  rw [h0, if_neg (by simp)] at h
  unfold eachB at h
  rw [if_pos hm] at h
  split at h
  ·cases h
   have hX := turn_may (list_turns (k := k) (by omega)) hm s.lines.length
   unfold listedB
   rw [if_pos (show mayS ⟨turnD (listL k) s, s.anc, s.foc, 0, 0⟩ = true from hX)]
   show allTo (listedL k) _ _ = true
   rw [all_iff]
   intro i hi hs
   have hi' : i < s.lines.length := by
    have : i < (turnTo (listL k) s s.lines.length).length := hi
    rwa [turn_len] at this
   have hs' : selI s i = true := hs
   have hl := List.getElem?_eq_getElem hi'
   have ht : (turnTo (listL k) s s.lines.length)[i]? = _ := turn_at (f := listL k) (k := s.lines.length) hl
   rw [hs', decide_eq_true hi', Bool.true_and, if_pos rfl] at ht
   show listedL k ((turnTo (listL k) s s.lines.length).getD i default) = true
   rw [List.getD_eq_getElem?_getD, ht, Option.getD_some]
   unfold listL
   split
   ·simp [listedL, lastF]
   ·rename_i hne
    split
    ·rename_i hla
     simp [listedL, hne, hla]
    ·simp [listedL, lastF]
  ·cases h
structure Cmd where
 name : List UInt8
 input : List UInt8
 data : Int
 deriving DecidableEq, Inhabited
def cmds : List Cmd := [
 ⟨[105, 110, 115, 101, 114, 116, 84, 101, 120, 116], [105, 110, 115, 101, 114, 116, 84, 101, 120, 116], 1⟩,
 ⟨[105, 110, 115, 101, 114, 116, 76, 105, 110, 101, 66, 114, 101, 97, 107], [105, 110, 115, 101, 114, 116, 76, 105, 110, 101, 66, 114, 101, 97, 107], 0⟩,
 ⟨[105, 110, 115, 101, 114, 116, 80, 97, 114, 97, 103, 114, 97, 112, 104], [105, 110, 115, 101, 114, 116, 80, 97, 114, 97, 103, 114, 97, 112, 104], 0⟩,
 ⟨[100, 101, 108, 101, 116, 101], [100, 101, 108, 101, 116, 101, 67, 111, 110, 116, 101, 110, 116, 66, 97, 99, 107, 119, 97, 114, 100], 0⟩,
 ⟨[102, 111, 114, 119, 97, 114, 100, 68, 101, 108, 101, 116, 101], [100, 101, 108, 101, 116, 101, 67, 111, 110, 116, 101, 110, 116, 70, 111, 114, 119, 97, 114, 100], 0⟩,
 ⟨[98, 111, 108, 100], [102, 111, 114, 109, 97, 116, 66, 111, 108, 100], 0⟩,
 ⟨[105, 116, 97, 108, 105, 99], [102, 111, 114, 109, 97, 116, 73, 116, 97, 108, 105, 99], 0⟩,
 ⟨[117, 110, 100, 101, 114, 108, 105, 110, 101], [102, 111, 114, 109, 97, 116, 85, 110, 100, 101, 114, 108, 105, 110, 101], 0⟩,
 ⟨[115, 116, 114, 105, 107, 101, 84, 104, 114, 111, 117, 103, 104], [102, 111, 114, 109, 97, 116, 83, 116, 114, 105, 107, 101, 84, 104, 114, 111, 117, 103, 104], 0⟩,
 ⟨[99, 114, 101, 97, 116, 101, 76, 105, 110, 107], [105, 110, 115, 101, 114, 116, 76, 105, 110, 107], 1⟩,
 ⟨[117, 110, 108, 105, 110, 107], [102, 111, 114, 109, 97, 116, 85, 110, 108, 105, 110, 107], 0⟩,
 ⟨[114, 101, 109, 111, 118, 101, 70, 111, 114, 109, 97, 116], [102, 111, 114, 109, 97, 116, 82, 101, 109, 111, 118, 101], 0⟩,
 ⟨[102, 111, 114, 109, 97, 116, 66, 108, 111, 99, 107], [102, 111, 114, 109, 97, 116, 66, 108, 111, 99, 107], 1⟩,
 ⟨[105, 110, 100, 101, 110, 116], [102, 111, 114, 109, 97, 116, 73, 110, 100, 101, 110, 116], 0⟩,
 ⟨[111, 117, 116, 100, 101, 110, 116], [102, 111, 114, 109, 97, 116, 79, 117, 116, 100, 101, 110, 116], 0⟩,
 ⟨[105, 110, 115, 101, 114, 116, 85, 110, 111, 114, 100, 101, 114, 101, 100, 76, 105, 115, 116], [105, 110, 115, 101, 114, 116, 85, 110, 111, 114, 100, 101, 114, 101, 100, 76, 105, 115, 116], 0⟩,
 ⟨[105, 110, 115, 101, 114, 116, 79, 114, 100, 101, 114, 101, 100, 76, 105, 115, 116], [105, 110, 115, 101, 114, 116, 79, 114, 100, 101, 114, 101, 100, 76, 105, 115, 116], 0⟩]
theorem cmds_len : cmds.length = 17 := rfl
def findQ (name : List UInt8) : Option Nat := cmds.findIdx? fun c => decide (c.name.map lowB = name.map lowB)
theorem findQ_lt {name : List UInt8} {k : Nat} (h : findQ name = some k) : k < 17 := by
 have := List.findIdx?_eq_some_iff_getElem.1 h
 exact this.1
def bareQ (a : List UInt8) : List UInt8 := if 1 < a.length ∧ a.head? = some 60 ∧ a.getLast? = some 62 then (a.drop 1).dropLast else a
def kindQ (a : List UInt8) : Option Int :=
 if (bareQ a).map lowB = [112] then some 0 else if (bareQ a).map lowB = [104, 49] then some 1 else if (bareQ a).map lowB = [104, 50] then some 2 else if (bareQ a).map lowB = [104, 51] then some 3 else none
def formatQ (s : St) (a : List UInt8) : St × Int := match kindQ a with | some k => formatB k s | none => (noS, 1)
def bitQ (k : Nat) : Int := if k = 5 then 1 else if k = 6 then 2 else if k = 7 then 4 else if k = 8 then 8 else 0
def doQ (s : St) (k : Nat) (a : List UInt8) : St × Int :=
 if k = 0 then keyS s (textK s ⟨a.toArray⟩) else if k = 1 then keyS s (textK s ⟨#[10]⟩) else if k = 2 then keyS s (paraK s) else if k = 3 then keyS s (backK s) else if k = 4 then keyS s (forthK s)
 else if k ≤ 8 then toggleS s (bitQ k) else if k = 9 then changedS s (linkL s a) else if k = 10 then changedS s (unlinkL s) else if k = 11 then changedS s (plainL s)
 else if k = 12 then formatQ s a else if k = 13 then eachB indentL s else if k = 14 then eachB outdentL s else listB ((k : Int) - 15) s
def runQ (s : St) (name a : List UInt8) : St × Int := match findQ name with | some k => doQ s k a | none => (noS, 2)
def stateQ (s : St) (name : List UInt8) : Bool := match findQ name with | some k => if 15 ≤ k then (listedB ((k : Int) - 15) s).1 else hasS s (bitQ k) | none => false
def indetQ (s : St) (name : List UInt8) : Bool := match findQ name with
 | some k => if k = 12 then mayS s && (kindB s).isNone else if 15 ≤ k then (listedB ((k : Int) - 15) s).2 && !(listedB ((k : Int) - 15) s).1 else mixedS s (bitQ k)
 | none => false
def DoOn (x : St × Int) : Prop := (x.2 = 0 ∧ mayS x.1 = true ∧ RngS x.1) ∨ (x.1 = noS ∧ (x.2 = 1 ∨ x.2 = 7 ∨ x.2 = 10))
theorem DoOn.of_key {x : St × Int} (h : KeyOk x) : DoOn x := by
 rcases h with ⟨h0, D, p, h1, h2, h3⟩ | ⟨h1, h2⟩
 ·exact .inl ⟨h0, by rw [h1]; exact closed_may h2 h3, by rw [h1]; exact ⟨⟨Int.le_refl 0, (by decide : (0 : Int) ≤ 15)⟩, ⟨Int.le_refl 0, (by decide : (0 : Int) ≤ 15)⟩⟩⟩
 ·exact .inr ⟨h1, h2.elim (fun h => .inr (.inl h)) (fun h => .inr (.inr h))⟩
theorem DoOn.of_act {s : St} {x : St × Int} (h : ActsOn s x) : DoOn x := by
 rcases h with ⟨h0, h1, h2⟩ | ⟨h1, h2⟩
 ·exact .inl ⟨h0, h1.may, h2⟩
 ·exact .inr ⟨h1, h2.elim (fun h => .inr (.inl h)) (fun h => .inl h)⟩
theorem DoOn.of_blk {s : St} {x : St × Int} (h : BlkOn s x) : DoOn x := by
 rcases h with ⟨h0, h1, _, _, h2, h3⟩ | ⟨h1, h2⟩
 ·exact .inl ⟨h0, h1, by rw [RngS, h2, h3]; exact ⟨⟨Int.le_refl 0, (by decide : (0 : Int) ≤ 15)⟩, ⟨Int.le_refl 0, (by decide : (0 : Int) ≤ 15)⟩⟩⟩
 ·exact .inr ⟨h1, h2.elim (fun h => .inr (.inl h)) (fun h => .inl h)⟩
theorem do_on {s : St} (hm : mayS s = true) (hr : RngS s) (k : Nat) (a : List UInt8) : DoOn (doQ s k a) := by
 by_cases h0 : k = 0
 ·rw [doQ, if_pos h0]
  exact DoOn.of_key (text_ok hm hr ⟨a.toArray⟩)
 by_cases h1 : k = 1
 ·rw [doQ, if_neg h0, if_pos h1]
  exact DoOn.of_key (text_ok hm hr ⟨#[10]⟩)
 by_cases h2 : k = 2
 ·rw [doQ, if_neg h0, if_neg h1, if_pos h2]
  exact DoOn.of_key (para_ok hm)
 by_cases h3 : k = 3
 ·rw [doQ, if_neg h0, if_neg h1, if_neg h2, if_pos h3]
  exact DoOn.of_key (back_ok hm)
 by_cases h4 : k = 4
 ·rw [doQ, if_neg h0, if_neg h1, if_neg h2, if_neg h3, if_pos h4]
  exact DoOn.of_key (forth_ok hm)
 by_cases h5 : k ≤ 8
 ·rw [doQ, if_neg h0, if_neg h1, if_neg h2, if_neg h3, if_neg h4, if_pos h5]
  have h9 : four (bitQ k) = true := by
   have : k = 5 ∨ k = 6 ∨ k = 7 ∨ k = 8 := by omega
   rcases this with rfl | rfl | rfl | rfl <;> decide
  exact DoOn.of_act (acts_toggle hm hr h9)
 by_cases h6 : k = 9
 ·rw [doQ, if_neg h0, if_neg h1, if_neg h2, if_neg h3, if_neg h4, if_neg h5, if_pos h6]
  exact DoOn.of_act (acts_link hm a)
 by_cases h7 : k = 10
 ·rw [doQ, if_neg h0, if_neg h1, if_neg h2, if_neg h3, if_neg h4, if_neg h5, if_neg h6, if_pos h7]
  exact DoOn.of_act (acts_unlink hm)
 by_cases h8 : k = 11
 ·rw [doQ, if_neg h0, if_neg h1, if_neg h2, if_neg h3, if_neg h4, if_neg h5, if_neg h6, if_neg h7, if_pos h8]
  exact DoOn.of_act (acts_plain hm)
 by_cases h9 : k = 12
 ·rw [doQ, if_neg h0, if_neg h1, if_neg h2, if_neg h3, if_neg h4, if_neg h5, if_neg h6, if_neg h7, if_neg h8, if_pos h9]
  unfold formatQ
  cases kindQ a with
  | none => exact .inr ⟨rfl, .inl rfl⟩
  | some q => exact DoOn.of_blk (format_on hm q)
 by_cases h10 : k = 13
 ·rw [doQ, if_neg h0, if_neg h1, if_neg h2, if_neg h3, if_neg h4, if_neg h5, if_neg h6, if_neg h7, if_neg h8, if_neg h9, if_pos h10]
  exact DoOn.of_blk (each_on indent_turns hm)
 by_cases h11 : k = 14
 ·rw [doQ, if_neg h0, if_neg h1, if_neg h2, if_neg h3, if_neg h4, if_neg h5, if_neg h6, if_neg h7, if_neg h8, if_neg h9, if_neg h10, if_pos h11]
  exact DoOn.of_blk (each_on outdent_turns hm)
 rw [doQ, if_neg h0, if_neg h1, if_neg h2, if_neg h3, if_neg h4, if_neg h5, if_neg h6, if_neg h7, if_neg h8, if_neg h9, if_neg h10, if_neg h11]
 exact DoOn.of_blk (listB_on hm _)
theorem each_thrice {F G : Cel → Cel} (hF : ∀ c, mayC c = true → mayC (F c) = true) (hG : ∀ c, mayC c = true → mayC (G c) = true) (hFG : ∀ c, mayC c = true → F (G (F c)) = F c) {d : Doc} {a b : Ps} {X Y Z : Doc}
  (h1 : eachD (fun cs i j => mapIn F i j cs) d a b = (X, 0)) (h2 : eachD (fun cs i j => mapIn G i j cs) X a b = (Y, 0)) (h3 : eachD (fun cs i j => mapIn F i j cs) Y a b = (Z, 0)) : Z = X := by
 obtain ⟨s1, _, e1⟩ := each_ok h1
 obtain ⟨s2, _, e2⟩ := each_ok h2
 obtain ⟨s3, _, e3⟩ := each_ok h3
 obtain ⟨hM, i, j, p, q, l, m, rfl, rfl, hl1, hm1, hp, hq, hij, hpq⟩ := span_at s1
 have hj := (zK.1 hm1).1
 simp only [Int.toNat_natCast] at e1 e2 e3
 have eX : ∀ k, X[k]? = (d[k]?).map (lineF F i p j q k) := fun k => by
  rw [e1]; exact setRows_get hj hij k
 have hXl : X.length = d.length := by
  have H := each_keeps hF h1
  exact H.2.2.2.1.1.symm
 have hYl : Y.length = X.length := (each_keeps hG h2).2.2.2.1.1.symm
 have eY : ∀ k, Y[k]? = (X[k]?).map (lineF G i p j q k) := fun k => by
  rw [e2]; exact setRows_get (by omega) hij k
 have eZ : ∀ k, Z[k]? = (Y[k]?).map (lineF F i p j q k) := fun k => by
  rw [e3]; exact setRows_get (by omega) hij k
 refine List.ext_getElem? fun k => ?_
 rw [eZ, eY, eX]
 cases hk : d[k]? with
 | none => rfl
 | some l0 =>
  simp only [Option.map_some, Option.some.injEq]
  have hml := (mayD_iff.1 hM).2.2.2 l0 (mem_of_at hk)
  have f1 := lineF_frame F i p j q k l0
  have f2 := lineF_frame G i p j q k (lineF F i p j q k l0)
  have f3 := lineF_frame F i p j q k (lineF G i p j q k (lineF F i p j q k l0))
  have hcells : (lineF F i p j q k (lineF G i p j q k (lineF F i p j q k l0))).cells = (lineF F i p j q k l0).cells := by
   refine List.ext_getElem? fun n => ?_
   cases hn : l0.cells[n]? with
   | none =>
    have hn := List.getElem?_eq_none_iff.1 hn
    rw [List.getElem?_eq_none_iff.2 (by rw [lineF_length, lineF_length, lineF_length]; exact hn), List.getElem?_eq_none_iff.2 (by rw [lineF_length]; exact hn)]
   | some c =>
    have hc : mayC c = true := List.all_eq_true.1 (mayL_has hml) c (List.mem_of_getElem? hn)
    have g1 := lineF_cell F (p := p) (q := q) (k := k) hij hn
    have g2 := lineF_cell G (p := p) (q := q) (k := k) hij g1
    have g3 := lineF_cell F (p := p) (q := q) (k := k) hij g2
    rw [g3, g1]
    split
    ·rw [hFG c hc]
    ·rfl
  have hfr : ∀ x y : Lin, ({ x with cells := [] } : Lin) = { y with cells := [] } → x.cells = y.cells → x = y := fun x y h k => by
   obtain ⟨_, _, _, _⟩ := x
   obtain ⟨_, _, _, _⟩ := y
   simp only [Lin.mk.injEq] at h k ⊢
   exact ⟨h.1, h.2.1, h.2.2.1, k⟩
  exact hfr _ _ (f3.trans f2) hcells
theorem set_clear (b : Int) (hb : four b = true) (x : Int) (hx : 0 ≤ x ∧ x ≤ 15) :
  bits .or .i64 (bits .andNot .i64 (bits .or .i64 (bits .andNot .i64 (bits .or .i64 (bits .andNot .i64 x (bits .and .i64 0 15)) (bits .and .i64 b 15)) (bits .and .i64 b 15)) (bits .and .i64 0 15)) (bits .and .i64 0 15)) (bits .and .i64 b 15) = bits .or .i64 (bits .andNot .i64 x (bits .and .i64 0 15)) (bits .and .i64 b 15) ∧
  bits .or .i64 (bits .andNot .i64 (bits .or .i64 (bits .andNot .i64 (bits .or .i64 (bits .andNot .i64 x (bits .and .i64 b 15)) (bits .and .i64 0 15)) (bits .and .i64 0 15)) (bits .and .i64 b 15)) (bits .and .i64 b 15)) (bits .and .i64 0 15) = bits .or .i64 (bits .andNot .i64 x (bits .and .i64 b 15)) (bits .and .i64 0 15) ∧
  bits .and .i64 (bits .or .i64 (bits .andNot .i64 x (bits .and .i64 0 15)) (bits .and .i64 b 15)) b = b ∧ bits .and .i64 (bits .or .i64 (bits .andNot .i64 x (bits .and .i64 b 15)) (bits .and .i64 0 15)) b = 0 := by
 obtain ⟨x, rfl⟩ := Int.eq_ofNat_of_zero_le hx.1
 have H : ∀ b ∈ [(1 : Int), 2, 4, 8], ∀ x : Fin 16,
  bits .or .i64 (bits .andNot .i64 (bits .or .i64 (bits .andNot .i64 (bits .or .i64 (bits .andNot .i64 (x.val : Int) (bits .and .i64 0 15)) (bits .and .i64 b 15)) (bits .and .i64 b 15)) (bits .and .i64 0 15)) (bits .and .i64 0 15)) (bits .and .i64 b 15) = bits .or .i64 (bits .andNot .i64 (x.val : Int) (bits .and .i64 0 15)) (bits .and .i64 b 15) ∧
  bits .or .i64 (bits .andNot .i64 (bits .or .i64 (bits .andNot .i64 (bits .or .i64 (bits .andNot .i64 (x.val : Int) (bits .and .i64 b 15)) (bits .and .i64 0 15)) (bits .and .i64 0 15)) (bits .and .i64 b 15)) (bits .and .i64 b 15)) (bits .and .i64 0 15) = bits .or .i64 (bits .andNot .i64 (x.val : Int) (bits .and .i64 b 15)) (bits .and .i64 0 15) ∧
  bits .and .i64 (bits .or .i64 (bits .andNot .i64 (x.val : Int) (bits .and .i64 0 15)) (bits .and .i64 b 15)) b = b ∧ bits .and .i64 (bits .or .i64 (bits .andNot .i64 (x.val : Int) (bits .and .i64 b 15)) (bits .and .i64 0 15)) b = 0 := by decide +kernel
 have hm : b ∈ [(1 : Int), 2, 4, 8] := by rcases four_cases hb with rfl | rfl | rfl | rfl <;> simp
 exact H b hm ⟨x, by omega⟩
theorem four_ne {b : Int} (h : four b = true) : (b == 0) = false := by rcases four_cases h with rfl | rfl | rfl | rfl <;> rfl
theorem has_open {s : St} {b : Int} (hm : mayS s = true) (hb : four b = true) (ho : ¬ s.anc = s.foc) : hasS s b = allL (selS s) b := by
 unfold hasS bitsS
 rw [if_pos hm, if_neg ho, four_ne hb]
 exact bits_all hb fun c hc => cells_bits (mayS_at hm).1 c hc
theorem mixed_open {s : St} {b : Int} (h : someL (selS s) b = false ∨ allL (selS s) b = true) : mixedS s b = false := by
 unfold mixedS
 rcases h with h | h <;> rw [h] <;> simp
theorem all_on {l : List Cel} {b : Int} (hb : four b = true) (hl : l ≠ []) (h : ∀ c ∈ l, 0 ≤ c.bits ∧ c.bits ≤ 15) : allL (l.map (setBits b 0)) b = true ∧ allL (l.map (setBits 0 b)) b = false ∧ someL (l.map (setBits 0 b)) b = false := by
 have hp : 0 < l.length := List.length_pos_iff.2 hl
 refine ⟨?_, ?_, ?_⟩
 ·unfold allL
  rw [List.length_map, decide_eq_true hp, Bool.true_and, List.all_eq_true]
  intro x hx
  obtain ⟨c, hc, rfl⟩ := List.mem_map.1 hx
  rw [beq_iff_eq]
  exact (set_clear b hb c.bits (h c hc)).2.2.1
 ·rcases l with _ | ⟨c, l⟩
  ·exact absurd rfl hl
  ·unfold allL
   rw [List.map_cons, List.all_cons]
   have h0 : bits .and .i64 (setBits 0 b c).bits b = 0 := (set_clear b hb c.bits (h c (by simp))).2.2.2
   rw [h0, show ((0 : Int) == b) = false by rw [Bool.beq_comm]; exact four_ne hb, Bool.false_and, Bool.and_false]
 ·unfold someL
  rw [List.any_eq_false]
  intro x hx
  obtain ⟨c, hc, rfl⟩ := List.mem_map.1 hx
  have h0 : bits .and .i64 (setBits 0 b c).bits b = 0 := (set_clear b hb c.bits (h c hc)).2.2.2
  rw [h0]
  decide
structure Twice (s a : St) (b : Int) (B C : St) : Prop where
 okB : toggleS a b = (B, 0)
 okC : toggleS B b = (C, 0)
 same : C = a
 hasA : hasS a b = !hasS s b
 hasB : hasS B b = !hasS a b
 mixA : mixedS a b = false
 mixB : mixedS B b = false
 mayA : mayS a = true
 mayB : mayS B = true
 anc : a.anc = s.anc ∧ a.foc = s.foc
theorem toggle_open {s : St} {b : Int} (hm : mayS s = true) (hb : four b = true) (ho : ¬ s.anc = s.foc) : toggleS s b = staysS s (togD s b) := by
 unfold toggleS
 rw [if_pos ⟨hm, hb⟩, if_neg ho]
theorem twice_open {s a : St} {b : Int} (hm : mayS s = true) (hb : four b = true) (ho : ¬ s.anc = s.foc) (h : toggleS s b = (a, 0)) : ∃ B C, Twice s a b B C := by
 have hr := four_rng hb
 have m1 := may_setBits (s := b) (c := 0) hr (by decide)
 have m2 := may_setBits (s := 0) (c := b) (by decide) hr
 rw [toggle_open hm hb ho] at h
 obtain ⟨h0, rfl⟩ := stays_ok h
 have key : ∀ (F G : Cel → Cel) (tf : Bool), (∀ c, mayC c = true → mayC (F c) = true) → (∀ c, mayC c = true → mayC (G c) = true) → (∀ c, mayC c = true → F (G (F c)) = F c) →
   (∀ t : St, mayS t = true → allL (selS t) b = tf → togD t b = eachD (fun cs i j => mapIn F i j cs) t.lines (spanS t).1 (spanS t).2) →
   (∀ t : St, mayS t = true → allL (selS t) b = !tf → togD t b = eachD (fun cs i j => mapIn G i j cs) t.lines (spanS t).1 (spanS t).2) →
   (∀ l : List Cel, l ≠ [] → (∀ c ∈ l, 0 ≤ c.bits ∧ c.bits ≤ 15) → allL (l.map F) b = (!tf) ∧ (someL (l.map F) b = false ∨ allL (l.map F) b = true)) →
   (∀ l : List Cel, l ≠ [] → (∀ c ∈ l, 0 ≤ c.bits ∧ c.bits ≤ 15) → allL (l.map G) b = tf ∧ (someL (l.map G) b = false ∨ allL (l.map G) b = true)) →
   allL (selS s) b = tf → ∃ B C, Twice s ⟨(togD s b).1, s.anc, s.foc, 0, 0⟩ b B C := by
  intro F G tf hF hG hFG tF tG aF aG hs
  have e1 := tF s hm hs
  obtain ⟨X, er, hX⟩ : ∃ X er, eachD (fun cs i j => mapIn F i j cs) s.lines (spanS s).1 (spanS s).2 = (X, er) := ⟨_, _, rfl⟩
  rw [e1, hX] at h0 ⊢
  have h0 : er = 0 := h0
  subst h0
  obtain ⟨g1, g2, g3, g4, g5, g6, g7⟩ := open_stays hm hF hX
  obtain ⟨k1, k2⟩ := aF (selS s) g3 g7
  have hne : selS ⟨X, s.anc, s.foc, 0, 0⟩ ≠ [] := by rw [g4]; simpa using g3
  have e2 := tG ⟨X, s.anc, s.foc, 0, 0⟩ g2 (by rw [g4]; exact k1)
  obtain ⟨Y, hY⟩ := each_again (s := s) (F := G) (X := X) (A := (spanS s).1) (B := (spanS s).2) g6 (by have := hne; unfold selS at this; rw [g5] at this; exact this)
  have hY' : eachD (fun cs i j => mapIn G i j cs) (⟨X, s.anc, s.foc, 0, 0⟩ : St).lines (spanS ⟨X, s.anc, s.foc, 0, 0⟩).1 (spanS ⟨X, s.anc, s.foc, 0, 0⟩).2 = (Y, 0) := by rw [g5]; exact hY
  obtain ⟨q1, q2, q3, q4, q5, q6, q7⟩ := open_stays g2 hG hY'
  simp only at q1 q2 q4 q5 q6
  rw [g5] at q5 q6
  obtain ⟨n1, n2⟩ := aG _ q3 q7
  have hne2 : selS ⟨Y, s.anc, s.foc, 0, 0⟩ ≠ [] := by rw [q4]; simpa using q3
  have e3 := tF ⟨Y, s.anc, s.foc, 0, 0⟩ q2 (by rw [q4]; exact n1)
  obtain ⟨Z, hZ⟩ := each_again (s := s) (F := F) (X := Y) (A := (spanS s).1) (B := (spanS s).2) q6 (by have := hne2; unfold selS at this; rw [q5] at this; exact this)
  have hZX : Z = X := each_thrice hF hG hFG hX hY hZ
  subst hZX
  refine ⟨⟨Y, s.anc, s.foc, 0, 0⟩, ⟨Z, s.anc, s.foc, 0, 0⟩, ?_⟩
  refine { okB := ?_, okC := ?_, same := rfl, hasA := ?_, hasB := ?_, mixA := mixed_open (by rw [g4]; exact k2), mixB := mixed_open (by rw [q4]; exact n2), mayA := g2, mayB := q2, anc := ⟨rfl, rfl⟩ }
  ·rw [toggle_open g2 hb ho, e2, hY']
   rfl
  ·rw [toggle_open q2 hb ho, e3, q5, hZ]
   rfl
  ·rw [has_open g2 hb ho, has_open hm hb ho, g4, k1, hs]
  ·rw [has_open q2 hb ho, has_open g2 hb ho, q4, n1, g4, k1, Bool.not_not]
 by_cases hs : allL (selS s) b = true
 ·exact key (setBits 0 b) (setBits b 0) true m2 m1 (fun c hc => by
   have := (set_clear b hb c.bits (mayC_bits hc)).2.1
   unfold setBits
   simp only [Cel.mk.injEq, true_and, and_true]
   exact this)
   (fun t _ ht => by unfold togD setD; rw [if_pos ht])
   (fun t _ ht => by unfold togD setD; rw [if_neg (by rw [ht]; decide)])
   (fun l h1 h2 => ⟨(all_on hb h1 h2).2.1, .inl (all_on hb h1 h2).2.2⟩)
   (fun l h1 h2 => ⟨(all_on hb h1 h2).1, .inr (all_on hb h1 h2).1⟩) hs
 ·have hs : allL (selS s) b = false := by simpa using hs
  exact key (setBits b 0) (setBits 0 b) false m1 m2 (fun c hc => by
   have := (set_clear b hb c.bits (mayC_bits hc)).1
   unfold setBits
   simp only [Cel.mk.injEq, true_and, and_true]
   exact this)
   (fun t _ ht => by unfold togD setD; rw [if_neg (by rw [ht]; decide)])
   (fun t _ ht => by unfold togD setD; rw [if_pos (by simpa using ht)])
   (fun l h1 h2 => ⟨(all_on hb h1 h2).1, .inr (all_on hb h1 h2).1⟩)
   (fun l h1 h2 => ⟨(all_on hb h1 h2).2.1, .inl (all_on hb h1 h2).2.2⟩) hs
def tOn (on off x b : Int) : Int := bits .or .i64 (bits .andNot .i64 on b) (bits .andNot .i64 b (bits .or .i64 (bits .andNot .i64 x off) on))
def tOff (on off x b : Int) : Int := bits .or .i64 (bits .andNot .i64 off b) (bits .andNot .i64 b (bits .andNot .i64 b (bits .or .i64 (bits .andNot .i64 x off) on)))
def tBits (on off x : Int) : Int := bits .or .i64 (bits .andNot .i64 x off) on
theorem tog_fin (on off x b : Int) (ho : 0 ≤ on ∧ on ≤ 15) (hf : 0 ≤ off ∧ off ≤ 15) (hx : 0 ≤ x ∧ x ≤ 15) (h0 : bits .and .i64 on off = 0) (hb : four b = true) :
  tOn (tOn (tOn on off x b) (tOff on off x b) x b) (tOff (tOn on off x b) (tOff on off x b) x b) x b = tOn on off x b ∧
  tOff (tOn (tOn on off x b) (tOff on off x b) x b) (tOff (tOn on off x b) (tOff on off x b) x b) x b = tOff on off x b ∧
  (bits .and .i64 (tBits (tOn on off x b) (tOff on off x b) x) b == b) = !(bits .and .i64 (tBits on off x) b == b) ∧
  bits .xor .i64 (tBits (tOn on off x b) (tOff on off x b) x) (tBits on off x) = b ∧
  tBits (tOn (tOn on off x b) (tOff on off x b) x b) (tOff (tOn on off x b) (tOff on off x b) x b) x = tBits on off x := by
 obtain ⟨on, rfl⟩ := Int.eq_ofNat_of_zero_le ho.1
 obtain ⟨off, rfl⟩ := Int.eq_ofNat_of_zero_le hf.1
 obtain ⟨x, rfl⟩ := Int.eq_ofNat_of_zero_le hx.1
 have H : ∀ b ∈ [(1 : Int), 2, 4, 8], ∀ on off x : Fin 16, bits .and .i64 (on.val : Int) (off.val : Int) = 0 →
  tOn (tOn (tOn on.val off.val x.val b) (tOff on.val off.val x.val b) x.val b) (tOff (tOn on.val off.val x.val b) (tOff on.val off.val x.val b) x.val b) x.val b = tOn on.val off.val x.val b ∧
  tOff (tOn (tOn on.val off.val x.val b) (tOff on.val off.val x.val b) x.val b) (tOff (tOn on.val off.val x.val b) (tOff on.val off.val x.val b) x.val b) x.val b = tOff on.val off.val x.val b ∧
  (bits .and .i64 (tBits (tOn on.val off.val x.val b) (tOff on.val off.val x.val b) x.val) b == b) = !(bits .and .i64 (tBits on.val off.val x.val) b == b) ∧
  bits .xor .i64 (tBits (tOn on.val off.val x.val b) (tOff on.val off.val x.val b) x.val) (tBits on.val off.val x.val) = b ∧
  tBits (tOn (tOn on.val off.val x.val b) (tOff on.val off.val x.val b) x.val b) (tOff (tOn on.val off.val x.val b) (tOff on.val off.val x.val b) x.val b) x.val = tBits on.val off.val x.val := by decide +kernel
 have hm : b ∈ [(1 : Int), 2, 4, 8] := by rcases four_cases hb with rfl | rfl | rfl | rfl <;> simp
 exact H b hm ⟨on, by omega⟩ ⟨off, by omega⟩ ⟨x, by omega⟩ h0
def aroundS (s : St) : Int := (aroundF (cellsAt s) s.anc.col.toNat).1
theorem bitsS_closed {s : St} (hm : mayS s = true) (hc : s.anc = s.foc) : bitsS s = tBits s.on s.off (aroundS s) := by
 unfold bitsS
 rw [if_pos hm, if_pos hc]
 rfl
theorem aroundS_rng {s : St} (hm : mayS s = true) : 0 ≤ aroundS s ∧ aroundS s ≤ 15 := by
 obtain ⟨hM, hi, _⟩ := mayS_at hm
 obtain ⟨i, j, l, ha, hl, hj⟩ := isD_nat hi
 have : cellsAt s = l.cells := by
  unfold cellsAt
  rw [ha]
  simp only [Int.toNat_natCast]
  rw [List.getD_eq_getElem?_getD, hl]
  rfl
 unfold aroundS
 rw [this, ha]
 exact around_rng (mayL_has ((mayD_iff.1 hM).2.2.2 l (mem_of_at hl))) (by simpa using hj)
theorem tog_closedS {s : St} {b : Int} (hm : mayS s = true) (hb : four b = true) (hc : s.anc = s.foc) : toggleS s b = ({ s with on := tOn s.on s.off (aroundS s) b, off := tOff s.on s.off (aroundS s) b }, 0) := by
 unfold toggleS
 rw [if_pos ⟨hm, hb⟩, if_pos hc]
 unfold togC
 rw [bitsS_closed hm hc]
 rfl
theorem twice_closed {s a : St} {b : Int} (hm : mayS s = true) (hr : RngS s) (hb : four b = true) (hc : s.anc = s.foc) (h : toggleS s b = (a, 0)) :
  ∃ B C, Twice s a b B C ∧ bits .xor .i64 (bitsS a) (bitsS s) = b ∧ bitsS B = bitsS s ∧ RngS a ∧ a.lines = s.lines := by
 have hx := aroundS_rng hm
 obtain ⟨_, _, _, _, _, h0⟩ := mayS_at hm
 have go : ∀ t : St, mayS t = true → RngS t → t.anc = t.foc → mayS { t with on := tOn t.on t.off (aroundS t) b, off := tOff t.on t.off (aroundS t) b } = true ∧ RngS { t with on := tOn t.on t.off (aroundS t) b, off := tOff t.on t.off (aroundS t) b } := by
  intro t ht hrt hct
  have := acts_toggle ht hrt hb
  rw [tog_closedS ht hb hct] at this
  rcases this with ⟨_, k1, k2⟩ | ⟨_, k⟩
  ·exact ⟨k1.may, k2⟩
  ·rcases k with k | k <;> cases k
 rw [tog_closedS hm hb hc] at h
 obtain ⟨m1, r1⟩ := go s hm hr hc
 obtain ⟨f1, f2, f3, f4, f5⟩ := tog_fin s.on s.off (aroundS s) b hr.1 hr.2 hx h0 hb
 cases h
 have ea := tog_closedS m1 hb (by exact hc)
 obtain ⟨m2, r2⟩ := go _ m1 r1 hc
 have eb := tog_closedS m2 hb (by exact hc)
 have A1 : aroundS { s with on := tOn s.on s.off (aroundS s) b, off := tOff s.on s.off (aroundS s) b } = aroundS s := rfl
 simp only [A1] at ea eb m2 r2
 have A2 : aroundS { s with on := tOn (tOn s.on s.off (aroundS s) b) (tOff s.on s.off (aroundS s) b) (aroundS s) b, off := tOff (tOn s.on s.off (aroundS s) b) (tOff s.on s.off (aroundS s) b) (aroundS s) b } = aroundS s := rfl
 simp only [A2, f1, f2] at eb
 have hA : bitsS { s with on := tOn s.on s.off (aroundS s) b, off := tOff s.on s.off (aroundS s) b } = tBits (tOn s.on s.off (aroundS s) b) (tOff s.on s.off (aroundS s) b) (aroundS s) := bitsS_closed m1 hc
 have hB : bitsS { s with on := tOn (tOn s.on s.off (aroundS s) b) (tOff s.on s.off (aroundS s) b) (aroundS s) b, off := tOff (tOn s.on s.off (aroundS s) b) (tOff s.on s.off (aroundS s) b) (aroundS s) b } = bitsS s := by
  rw [bitsS_closed m2 hc, bitsS_closed hm hc]
  exact f5
 refine ⟨_, _, { okB := ea, okC := eb, same := rfl, hasA := ?_, hasB := ?_, mixA := ?_, mixB := ?_, mayA := m1, mayB := m2, anc := ⟨rfl, rfl⟩ }, ?_, hB, r1, rfl⟩
 ·unfold hasS
  rw [hA, bitsS_closed hm hc, f3, four_ne hb]
  simp
 ·unfold hasS
  rw [hB, hA, bitsS_closed hm hc, f3, four_ne hb]
  simp
 ·unfold mixedS
  simp [hc]
 ·unfold mixedS
  simp [hc]
 ·rw [hA, bitsS_closed hm hc]
  exact f4
theorem toggle_err {s : St} {b e : Int} {a : St} (hm : mayS s = true) (hb : four b = true) (h : toggleS s b = (a, e)) (he : ¬ e = 0) : e = 7 ∧ ¬ s.anc = s.foc ∧ cellsD s.lines (spanS s).1 (spanS s).2 = [] ∧ a = noS := by
 by_cases hc : s.anc = s.foc
 ·rw [tog_closedS hm hb hc] at h
  exact absurd (congrArg Prod.snd h).symm he
 ·rw [toggle_open hm hb hc] at h
  have hsp := mayS_span hm
  have hd : ∃ F : Cel → Cel, togD s b = eachD (fun cs i j => mapIn F i j cs) s.lines (spanS s).1 (spanS s).2 := by
   unfold togD
   split
   ·exact ⟨_, rfl⟩
   ·exact ⟨_, rfl⟩
  obtain ⟨F, hF⟩ := hd
  rw [hF] at h
  unfold eachD at h
  rw [if_pos hsp] at h
  by_cases hcl : cellsD s.lines (spanS s).1 (spanS s).2 = []
  ·rw [if_pos hcl] at h
   unfold staysS at h
   rw [if_neg (by decide)] at h
   cases h
   exact ⟨rfl, hc, hcl, rfl⟩
  ·rw [if_neg hcl] at h
   unfold staysS at h
   rw [if_pos rfl] at h
   exact absurd (congrArg Prod.snd h).symm he
theorem find_like {a b : List UInt8} (h : a.map lowB = b.map lowB) : findQ a = findQ b := by unfold findQ; rw [h]
theorem find_name {k : Nat} {c : Cmd} (h : cmds[k]? = some c) : findQ c.name = some k := by
 have hk : k < 17 := (zK.1 h).1
 have H : ∀ k : Fin 17, findQ (cmds[k.val]'k.isLt).name = some k.val := by decide +kernel
 have := H ⟨k, hk⟩
 obtain ⟨h1, h2⟩ := zK.1 h
 rw [← h2]
 exact this
theorem names_differ {i k : Nat} {c d : Cmd} (hi : cmds[i]? = some c) (hk : cmds[k]? = some d) (hne : i ≠ k) : c.name ≠ d.name ∧ c.input ≠ d.input := by
 have h1 : i < 17 := (zK.1 hi).1
 have h2 : k < 17 := (zK.1 hk).1
 have H : ∀ i k : Fin 17, i ≠ k → (cmds[i.val]'i.isLt).name ≠ (cmds[k.val]'k.isLt).name ∧ (cmds[i.val]'i.isLt).input ≠ (cmds[k.val]'k.isLt).input := by decide +kernel
 have := H ⟨i, h1⟩ ⟨k, h2⟩ (fun e => hne (Fin.mk.inj e))
 obtain ⟨_, e1⟩ := zK.1 hi
 obtain ⟨_, e2⟩ := zK.1 hk
 rw [← e1, ← e2]
 exact this
theorem has_mixed {s : St} (hm : mayS s = true) {b : Int} (hb : four b = true ∨ b = 0) : (hasS s b && mixedS s b) = false := by
 rcases hb with hb | rfl
 ·by_cases hc : s.anc = s.foc
  ·have : mixedS s b = false := by unfold mixedS; rw [decide_eq_true hc]; simp
   rw [this, Bool.and_false]
  ·rw [has_open hm hb hc]
   unfold mixedS
   cases allL (selS s) b <;> simp
 ·unfold hasS
  simp
theorem bitQ_four (k : Nat) : four (bitQ k) = true ∨ bitQ k = 0 := by
 unfold bitQ
 split
 ·exact .inl (by decide)
 split
 ·exact .inl (by decide)
 split
 ·exact .inl (by decide)
 split
 ·exact .inl (by decide)
 ·exact .inr rfl
theorem state_indet {s : St} (hm : mayS s = true) (name : List UInt8) : (stateQ s name && indetQ s name) = false := by
 unfold stateQ indetQ
 cases findQ name with
 | none => rfl
 | some k =>
  simp only
  by_cases h12 : k = 12
  ·subst h12
   rw [if_neg (by omega), if_pos rfl]
   have : hasS s (bitQ 12) = false := by unfold hasS; rw [show (bitQ 12 == 0) = true by decide]; rfl
   rw [this, Bool.false_and]
  ·rw [if_neg h12]
   by_cases h15 : 15 ≤ k
   ·rw [if_pos h15, if_pos h15]
    cases (listedB ((k : Int) - 15) s).1 <;> simp
   ·rw [if_neg h15, if_neg h15]
    exact has_mixed hm (bitQ_four k)
theorem tog_flip {s X : St} {b : Int} (hm : mayS s = true) (hr : RngS s) (hb : four b = true) (h : toggleS s b = (X, 0)) : hasS X b = !hasS s b ∧ mixedS X b = false := by
 by_cases hc : s.anc = s.foc
 ·obtain ⟨B, C, t, _⟩ := twice_closed hm hr hb hc h
  exact ⟨t.hasA, t.mixA⟩
 ·obtain ⟨B, C, t⟩ := twice_open hm hb hc h
  exact ⟨t.hasA, t.mixA⟩
theorem toggles {s X : St} {k : Nat} {c : Cmd} (hm : mayS s = true) (hr : RngS s) (hk : 5 ≤ k ∧ k ≤ 8 ∨ k = 15 ∨ k = 16) (hc : cmds[k]? = some c) (h : doQ s k [] = (X, 0)) (hw : 15 ≤ k → stateQ s c.name = false) :
  stateQ X c.name = !stateQ s c.name ∧ indetQ X c.name = false := by
 have hf := find_name hc
 rcases hk with hk | hk
 ·have hd : doQ s k [] = toggleS s (bitQ k) := by
   rw [doQ, if_neg (by omega), if_neg (by omega), if_neg (by omega), if_neg (by omega), if_neg (by omega), if_pos (by omega)]
  rw [hd] at h
  have hb : four (bitQ k) = true := by
   have : k = 5 ∨ k = 6 ∨ k = 7 ∨ k = 8 := by omega
   rcases this with rfl | rfl | rfl | rfl <;> decide
  obtain ⟨h1, h2⟩ := tog_flip hm hr hb h
  unfold stateQ indetQ
  rw [hf]
  simp only
  rw [if_neg (by omega), if_neg (by omega), if_neg (by omega), if_neg (by omega)]
  exact ⟨h1, h2⟩
 ·have hd : doQ s k [] = listB ((k : Int) - 15) s := by
   rw [doQ, if_neg (by omega), if_neg (by omega), if_neg (by omega), if_neg (by omega), if_neg (by omega), if_neg (by omega), if_neg (by omega), if_neg (by omega), if_neg (by omega), if_neg (by omega), if_neg (by omega), if_neg (by omega)]
  rw [hd] at h
  have hs : stateQ s c.name = (listedB ((k : Int) - 15) s).1 := by
   unfold stateQ
   rw [hf]
   simp only
   rw [if_pos (by omega)]
  have h0 := hw (by omega)
  have hX := list_is hm (hs.symm.trans h0) h
  have hs' : stateQ X c.name = (listedB ((k : Int) - 15) X).1 := by
   unfold stateQ
   rw [hf]
   simp only
   rw [if_pos (by omega)]
  refine ⟨by rw [hs', hX, h0]; rfl, ?_⟩
  unfold indetQ
  rw [hf]
  simp only
  rw [if_neg (by omega), if_pos (by omega), hX]
  simp
theorem lowB_low {b : UInt8} (h : b.toNat < 128) : (lowB b).toNat < 128 := by
 unfold lowB
 split
 ·rename_i h1
  have : (b + 32).toNat = b.toNat + 32 := by
   rw [UInt8.toNat_add]
   show (b.toNat + 32) % 256 = _
   omega
  omega
 ·exact h
theorem low_own {c : List UInt8} (hc : ∀ b ∈ c, b.toNat < 128) : Lib.mapD lowR c = c.map lowB :=
 (mapD_low c.length c (c.map lowB) (zC _) (fun b hb => by
  obtain ⟨x, hx, rfl⟩ := List.mem_map.1 hb
  exact lowB_low (hc x hx))).2 rfl
theorem low_eq {c : List UInt8} (hc : ∀ b ∈ c, b.toNat < 128) (name : List UInt8) : Lib.mapD lowR c = Lib.mapD lowR name ↔ c.map lowB = name.map lowB := by
 rw [low_own hc]
 have h := mapD_low name.length name (c.map lowB) (zC _) (fun b hb => by
  obtain ⟨x, hx, rfl⟩ := List.mem_map.1 hb
  exact lowB_low (hc x hx))
 exact ⟨fun e => (h.1 e.symm).symm, fun e => (h.2 e.symm).symm⟩
theorem cmds_plain : ∀ c ∈ cmds, ∀ b ∈ c.name, b.toNat < 128 := by decide +kernel
def tagsT : List (List UInt8 × Int) := [
 ([100, 105, 118], 1),
 ([112], 2),
 ([104, 49], 3),
 ([104, 50], 4),
 ([104, 51], 5),
 ([98, 108, 111, 99, 107, 113, 117, 111, 116, 101], 6),
 ([117, 108], 7),
 ([111, 108], 8),
 ([108, 105], 9),
 ([97], 10),
 ([98], 11),
 ([115, 116, 114, 111, 110, 103], 11),
 ([105], 12),
 ([101, 109], 12),
 ([117], 13),
 ([105, 110, 115], 13),
 ([115], 14),
 ([115, 116, 114, 105, 107, 101], 14),
 ([100, 101, 108], 14),
 ([115, 112, 97, 110], 15),
 ([98, 114], 16)]
def tagF (name : List UInt8) : Option Int := (tagsT.find? fun x => decide (x.1 = name.map lowB)).map (·.2)
theorem tag_of {n : List UInt8} {t : Int} (h : (n, t) ∈ tagsT) {name : List UInt8} (hn : n = name.map lowB) : tagF name = some t := by
 unfold tagF
 rw [← hn]
 have H : ∀ x ∈ tagsT, (tagsT.find? fun y => decide (y.1 = x.1)).map (·.2) = some x.2 := by decide +kernel
 exact H _ h
theorem tag_some {name : List UInt8} {t : Int} (h : tagF name = some t) : ∃ n, (n, t) ∈ tagsT ∧ n = name.map lowB := by
 unfold tagF at h
 obtain ⟨⟨n, t'⟩, h1, h2⟩ := Option.map_eq_some_iff.1 h
 simp only at h2
 subst h2
 have h3 := List.find?_some h1
 exact ⟨n, List.mem_of_find?_eq_some h1, of_decide_eq_true h3⟩
theorem kind_tag (a : List UInt8) : kindQ a = match tagF (bareQ a) with | some t => if 2 ≤ t ∧ t ≤ 5 then some (t - 2) else none | none => none := by
 cases h : tagF (bareQ a) with
 | some t =>
  obtain ⟨n, h1, h2⟩ := tag_some h
  have H : ∀ x ∈ tagsT, (if x.1 = [112] then some 0 else if x.1 = [104, 49] then some 1 else if x.1 = [104, 50] then some 2 else if x.1 = [104, 51] then some (3 : Int) else none) = if 2 ≤ x.2 ∧ x.2 ≤ 5 then some (x.2 - 2) else none := by decide +kernel
  unfold kindQ
  rw [← h2]
  exact H _ h1
 | none =>
  have hx : ∀ x ∈ tagsT, ¬ x.1 = (bareQ a).map lowB := fun x hx e => by
   have := tag_of (n := x.1) (t := x.2) hx e
   rw [h] at this
   cases this
  unfold kindQ
  rw [if_neg (fun e => hx ([112], 2) (by decide) e.symm), if_neg (fun e => hx ([104, 49], 3) (by decide) e.symm), if_neg (fun e => hx ([104, 50], 4) (by decide) e.symm), if_neg (fun e => hx ([104, 51], 5) (by decide) e.symm)]
theorem sel_at {s : St} {i j : Nat} (h1 : (spanS s).1.line = (i : Int)) (h2 : (spanS s).2.line = (j : Int)) (k : Nat) : selI s k = (decide (i ≤ k) && decide (k ≤ j)) := by
 unfold selI
 rw [h1, h2]
 congr 1
 ·exact decide_eq_decide.2 (by omega)
 ·exact decide_eq_decide.2 (by omega)
theorem turn_start {s : St} {i j : Nat} (h1 : (spanS s).1.line = (i : Int)) (h2 : (spanS s).2.line = (j : Int)) (f : Lin → Option Lin) : turnTo f s i = s.lines := by
 apply List.ext_getElem?
 intro n
 unfold turnTo
 rw [List.getElem?_mapIdx]
 cases s.lines[n]? with
 | none => rfl
 | some l =>
  simp only [Option.map_some]
  rw [sel_at h1 h2, if_neg]
  simp
  omega
theorem turn_end {s : St} {i j : Nat} (h1 : (spanS s).1.line = (i : Int)) (h2 : (spanS s).2.line = (j : Int)) (hj : j < s.lines.length) (f : Lin → Option Lin) : turnTo f s (j + 1) = turnD f s := by
 apply List.ext_getElem?
 intro n
 unfold turnD turnTo
 rw [List.getElem?_mapIdx, List.getElem?_mapIdx]
 cases h : s.lines[n]? with
 | none => rfl
 | some l =>
  have hn := (zK.1 h).1
  simp only [Option.map_some, Option.some.injEq]
  rw [sel_at h1 h2]
  have : (decide (i ≤ n) && decide (n ≤ j) && decide (n < j + 1)) = (decide (i ≤ n) && decide (n ≤ j) && decide (n < s.lines.length)) := by
   rw [decide_eq_true hn]
   by_cases h3 : n ≤ j
   ·rw [decide_eq_true h3, decide_eq_true (show n < j + 1 by omega)]
   ·rw [decide_eq_false h3]; simp
  rw [this]
theorem any_start {s : St} {i j : Nat} (h1 : (spanS s).1.line = (i : Int)) (h2 : (spanS s).2.line = (j : Int)) (p : Lin → Bool) : anyTo p s i = false := by
 unfold anyTo
 rw [List.any_eq_false]
 intro k hk
 rw [List.mem_range] at hk
 rw [sel_at h1 h2, decide_eq_false (by omega)]
 simp
theorem all_start {s : St} {i j : Nat} (h1 : (spanS s).1.line = (i : Int)) (h2 : (spanS s).2.line = (j : Int)) (p : Lin → Bool) : allTo p s i = true := by
 unfold allTo
 rw [List.all_eq_true]
 intro k hk
 rw [List.mem_range] at hk
 rw [sel_at h1 h2, decide_eq_false (by omega)]
 simp
theorem any_more {s : St} {i j : Nat} (h1 : (spanS s).1.line = (i : Int)) (h2 : (spanS s).2.line = (j : Int)) (p : Lin → Bool) : ∀ n, anyTo p s (j + 1 + n) = anyTo p s (j + 1)
 | 0 => rfl
 | n + 1 => by
  rw [← any_more h1 h2 p n]
  unfold anyTo
  rw [show j + 1 + (n + 1) = (j + 1 + n) + 1 from rfl, List.range_succ, List.any_append]
  simp only [List.any_cons, List.any_nil, Bool.or_false]
  rw [sel_at h1 h2, decide_eq_false (show ¬ j + 1 + n ≤ j by omega)]
  simp
theorem all_more {s : St} {i j : Nat} (h1 : (spanS s).1.line = (i : Int)) (h2 : (spanS s).2.line = (j : Int)) (p : Lin → Bool) : ∀ n, allTo p s (j + 1 + n) = allTo p s (j + 1)
 | 0 => rfl
 | n + 1 => by
  rw [← all_more h1 h2 p n]
  unfold allTo
  rw [show j + 1 + (n + 1) = (j + 1 + n) + 1 from rfl, List.range_succ, List.all_append]
  simp only [List.all_cons, List.all_nil, Bool.and_true]
  rw [sel_at h1 h2, decide_eq_false (show ¬ j + 1 + n ≤ j by omega)]
  simp
theorem any_end {s : St} {i j : Nat} (h1 : (spanS s).1.line = (i : Int)) (h2 : (spanS s).2.line = (j : Int)) (hj : j < s.lines.length) (p : Lin → Bool) : anyTo p s (j + 1) = anyTo p s s.lines.length := by
 have := any_more h1 h2 p (s.lines.length - (j + 1))
 rw [show j + 1 + (s.lines.length - (j + 1)) = s.lines.length by omega] at this
 exact this.symm
theorem all_end {s : St} {i j : Nat} (h1 : (spanS s).1.line = (i : Int)) (h2 : (spanS s).2.line = (j : Int)) (hj : j < s.lines.length) (p : Lin → Bool) : allTo p s (j + 1) = allTo p s s.lines.length := by
 have := all_more h1 h2 p (s.lines.length - (j + 1))
 rw [show j + 1 + (s.lines.length - (j + 1)) = s.lines.length by omega] at this
 exact this.symm
theorem span_lines {s : St} (hm : mayS s = true) : ∃ i j : Nat, (spanS s).1.line = (i : Int) ∧ (spanS s).2.line = (j : Int) ∧ i ≤ j ∧ j < s.lines.length := by
 obtain ⟨hM, i, j, p, q, l, m, ha, hb, hl, hm', hp, hq, hij, hpq⟩ := span_at (mayS_span hm)
 exact ⟨i, j, by rw [ha], by rw [hb], hij, (zK.1 hm').1⟩
def kindName (k : Int) : List UInt8 := if k = 0 then [112] else if k = 1 then [104, 49] else if k = 2 then [104, 50] else if k = 3 then [104, 51] else []
def valueQ (s : St) (name : List UInt8) : List UInt8 := match findQ name with
 | some k => if k = 12 then (match kindB s with | some q => kindName q | none => []) else if k = 9 then hrefS s else []
 | none => []
def dataQ (name arg : List UInt8) : List UInt8 × Bool := match findQ name with
 | some k => if (cmds.getD k default).data = 1 then (arg, true) else ([], true)
 | none => ([], false)
theorem data_is {k : Nat} {c : Cmd} (h : cmds[k]? = some c) : c.data = 1 ↔ k = 0 ∨ k = 9 ∨ k = 12 := by
 have hk : k < 17 := (zK.1 h).1
 have H : ∀ k : Fin 17, (cmds[k.val]'k.isLt).data = 1 ↔ k.val = 0 ∨ k.val = 9 ∨ k.val = 12 := by decide +kernel
 obtain ⟨_, h2⟩ := zK.1 h
 rw [← h2]
 exact H ⟨k, hk⟩
theorem do_args (s : St) {k : Nat} (h : ¬ (k = 0 ∨ k = 9 ∨ k = 12)) (a b : List UInt8) : doQ s k a = doQ s k b := by
 unfold doQ
 rw [if_neg (fun e => h (.inl e)), if_neg (fun e => h (.inl e)), if_neg (c := k = 9) (fun e => h (.inr (.inl e))), if_neg (c := k = 9) (fun e => h (.inr (.inl e))), if_neg (c := k = 12) (fun e => h (.inr (.inr e))), if_neg (c := k = 12) (fun e => h (.inr (.inr e)))]
theorem run_args (s : St) {k : Nat} {c : Cmd} (h : cmds[k]? = some c) (hd : c.data ≠ 1) (a b : List UInt8) : runQ s c.name a = runQ s c.name b := by
 unfold runQ
 rw [find_name h]
 exact do_args s (fun e => hd ((data_is h).2 e)) a b
theorem run_on {s : St} (hm : mayS s = true) (hr : RngS s) {k : Nat} {c : Cmd} (h : cmds[k]? = some c) (a : List UInt8) : DoOn (runQ s c.name a) := by
 unfold runQ
 rw [find_name h]
 exact do_on hm hr k a
end Go.Proofs.Qw
