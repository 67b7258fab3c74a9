/- The walks of view.goes, View, Pos. -/
import Derived.Test.YtjpgffihafknlaaGreatDoorVwNodeB
import Derived.Test.YtjpgffihafknlaaGreatDoorRenRepB
import Derived.Test.YtjpgffihafknlaaGreatDoorVwRowB
import Derived.Test.YtjpgffihafknlaaGreatDoorCharsTextB
import Derived.Test.YtjpgffihafknlaaGreatDoorDocPosB
import Derived.Test.YtjpgffihafknlaaGreatDoorShelf
import Derived.Test.YtjpgffihafknlaaGreatDoorRenAlikeB
set_option linter.unusedVariables false
set_option linter.unusedSimpArgs false
namespace Go.Proofs.YtjpgffihafknlaaGreatDoor
open Go.RowKit
open Go.Proofs.Qw
attribute [local go_sem] Oper.semAt_some
def AskR (w0 w : World) (S : Nat → Prop) (pv : Value) (p : Plc) : Prop :=
 (p = none ∧ pv = .pointer none) ∨ ∃ path k b v, p = some (path, k) ∧ pv = .pointer (some ⟨b, 0, none⟩) ∧ b < w.heap.size ∧ w.heap[b]? = some (.cells #[v, .int .i64 k] 44) ∧ IntsR false w0 S v path
def GoesSaid (s : VSt) (w : World) (e : Ending) (w' : World) : Prop :=
 ((longV s = true ∧ e = .returned (.tuple #[.pointer none, .int .i64 10])) ∨ (longV s = false ∧ ∃ B a lv, e = .returned (.tuple #[.pointer (some ⟨B, 0, none⟩), .int .i64 0]) ∧ VwR B w' a lv s ∧ w.heap.size ≤ B)) ∧ Below w.heap.size w w'
theorem VwR.zero {B : Nat} {w : World} {s : VSt} (h : VwR B w aro0 (.slice none 0 0) s) :
  VwR B ((((((w.setCell ⟨B, 0, none⟩ (.int .i64 0)).setCell ⟨B, 1, none⟩ (.slice none 0 0)).setCell ⟨B, 2, none⟩ (.int .i64 0)).setCell ⟨B, 3, none⟩ (.slice none 0 0)).setCell ⟨B, 4, none⟩ (.int .i64 0)).setCell ⟨B, 5, none⟩ (.string ⟨#[]⟩)) aro0 (.slice none 0 0) s ∧
  SetB B w ((((((w.setCell ⟨B, 0, none⟩ (.int .i64 0)).setCell ⟨B, 1, none⟩ (.slice none 0 0)).setCell ⟨B, 2, none⟩ (.int .i64 0)).setCell ⟨B, 3, none⟩ (.slice none 0 0)).setCell ⟨B, 4, none⟩ (.int .i64 0)).setCell ⟨B, 5, none⟩ (.string ⟨#[]⟩)) := by
 have hS := (((((SetB.one B w 0 (.int .i64 0)).trans (SetB.one B _ 1 (.slice none 0 0))).trans (SetB.one B _ 2 (.int .i64 0))).trans (SetB.one B _ 3 (.slice none 0 0))).trans (SetB.one B _ 4 (.int .i64 0))).trans (SetB.one B _ 5 (.string ⟨#[]⟩))
 obtain ⟨lns, xs, hB, hI, hL, hx⟩ := h
 exact ⟨VwR.turn hL hS.blk (Nat.le_of_eq hS.size.symm) (setCell_heap (setCell_heap (setCell_heap (setCell_heap (setCell_heap (setCell_heap hB _) _) _) _) _) _) hI hx, hS⟩
theorem zero_walk (w : World) (n : Nod) (na nk : Value) : ∃ W1, (w.alloc (.cells #[.int .i64 n.tag, na, .string ⟨n.text.toArray⟩, nk] 25)).alloc (.cells #[.int .i64 0, .slice none 0 0, .int .i64 0, .slice none 0 0, .int .i64 0, .string ⟨#[]⟩, .slice none 0 0, .int .i64 0, .bool false, .int .i64 0, .int .i64 0, .int .i64 0] 74) = W1 ∧ Below w.heap.size w W1 ∧ W1.heap[w.heap.size]? = some (.cells #[.int .i64 n.tag, na, .string ⟨n.text.toArray⟩, nk] 25) ∧ VwR (w.heap.size + 1) W1 aro0 (.slice none 0 0) vst0 :=
 ⟨_, rfl, ((Below.refl _ _).alloc (Nat.le_refl _) _).alloc (by simp) _, heap_old _ _ (heap_new _ _ rfl), ⟨.slice none 0 0, [], heap_new _ _ (by simp), SliceR.nil _ _ _ _ _ _, LnsR.nil _ _, rfl⟩⟩
set_option maxRecDepth 100000 in
set_option maxHeartbeats 4000000 in
theorem goes_any (HCs : CssP) (h : Nat) (n : Nod) (na nk pv : Value) (p : Plc) (w w0 : World) (S S' : Nat → Prop) (hA : AttsR false w0 S na n.attrs) (hK : NodsR false h w0 S nk n.kids) (he : EnvT w0) (h0 : Below w0.heap.size w0 w) (hav : AvN n) (hc : capM n ≤ 3900000) (hp : AskR w0 w S' pv p) :
  Calls Tryz.prog 39 #[nodV n na nk, pv] w (GoesSaid (goesV n p) w) := by
 obtain ⟨la, lc, rfl⟩ := hA.slice
 obtain ⟨ka, kc, rfl⟩ := hK.slice
 obtain ⟨W1, hW1, hB, z1, hV⟩ := zero_walk w n (.slice la n.attrs.length lc) (.slice ka n.kids.length kc)
 obtain ⟨sn, hsn⟩ : ∃ s, nodeV n aro0 p vst0 = s := ⟨_, rfl⟩
 have hcs := cap_all n aro0 p vst0
 rw [hsn] at hcs
 have hcz : capV vst0 = 0 := rfl
 have HGo : Hid (goesV n p = if sn.lines = [] then beginV aro0 sn else sn) := Lib.hid (by unfold goesV; rw [hsn])
 have HNd : Hid (Calls Tryz.prog 63 #[.pointer (some ⟨w.heap.size + 1, 0, none⟩), .agg #[.int .i64 n.tag, .slice la n.attrs.length lc, .string ⟨n.text.toArray⟩, .slice ka n.kids.length kc], pv] W1 fun e w' => (∃ u, e = .returned u) ∧ VwR (w.heap.size + 1) w' aro0 (.slice none 0 0) sn ∧ KeepT (w.heap.size + 1) W1 w') := Lib.hid (by
  rw [← hsn]
  refine view_all HCs h n _ _ pv p (w.heap.size + 1) aro0 _ vst0 W1 w0 S S' hA hK he (below_from h0 hB) (Nat.le_trans h0.size (Nat.le_succ _)) hV ⟨by decide, by decide, by decide⟩ ⟨(fun e => by cases e), rfl⟩ hav (by rw [hcz]; omega) ?_
  rcases hp with hp | ⟨path, k, b, v, h1, h2, h3, h4, h5⟩
  ·exact .inl hp
  ·exact .inr ⟨path, k, b, v, h1, h2, by omega, heap_below hB h4, h5⟩)
 obtain ⟨pa, rfl⟩ : ∃ pa, pv = .pointer pa := by rcases hp with ⟨_, h⟩ | ⟨_, _, _, _, _, h, _⟩ <;> exact ⟨_, h⟩
 have HW1 := Lib.hid hW1
 have HB := Lib.hid hB
 have HCn : Hid (capV sn ≤ 3900000) := Lib.hid (by omega)
 obtain ⟨q1, g1⟩ := blk z1
 rw [← hW1] at q1 g1
 have HZ := Lib.hid hV.lt
 clear hA hK he h0 hav hc hp hW1 hB hV z1 hsn hcs hcz
 unfold nodV
 go_enter Tryz.func39, Tryz.ntmps39
 go_upto_region 3 with (go_at_call 63; rw [HW1.out]; refine HNd.out.mono ?_; rintro e w2 ⟨⟨u, rfl⟩, hv2, hk2⟩)
 have hb2 : Below w.heap.size w w2 := HB.out.trans ((hk2.below HZ.out).mono (Nat.le_succ _))
 obtain ⟨la2, lc2, na2, nc2, hlv2, hB2⟩ := hv2.open
 have HV2 := Lib.hid hv2
 have HB2 := Lib.hid hb2
 obtain ⟨p2, f2⟩ := blk hB2
 clear hk2 hv2 hb2 q1 g1 hB2 hlv2
 by_cases hl : sn.lines = []
 ·have hl0 : sn.lines.length = 0 := by rw [hl]; rfl
  have HE : Hid (goesV n p = beginV aro0 sn) := Lib.hid (by rw [HGo.out, if_pos hl])
  have hz := VwR.zero HV2.out
  have HBg := Lib.hid (begin_any (w.heap.size + 1) aro0 (.slice none 0 0) sn _ hz.1 (by omega) (by decide))
  have HZz := Lib.hid hz.2
  rw [← HE.out] at HBg
  clear hz hl HE HGo
  generalize goesV n p = sg at *
  go_upto_region 6 with (go_at_call 64; refine HBg.out.mono ?_; rintro e w5 ⟨⟨u, rfl⟩, hv3, hk5⟩)
  have hb3 := HB2.out.trans (((HZz.out.keep.trans hk5).below HV2.out.lt).mono (Nat.le_succ _))
  clear p2 f2 HV2 HB2 hk5 hl0
  obtain ⟨la3, lc3, na3, nc3, hlv3, hB3⟩ := hv3.open
  obtain ⟨p3, f3⟩ := blk hB3
  have HV3 := Lib.hid hv3
  have HB3 := Lib.hid hb3
  have HL : Hid (longV sg = (decide (200 < sg.lines.length) || decide (4000 < sg.cells))) := Lib.hid rfl
  clear hv3 hB3 hb3 hlv3
  have hcs : (200 < sg.lines.length) ∨ (¬ 200 < sg.lines.length ∧ 4000 < sg.cells) ∨ (¬ 200 < sg.lines.length ∧ ¬ 4000 < sg.cells) := by omega
  rcases hcs with h1 | ⟨h1, h2⟩ | ⟨h1, h2⟩
  ·have h1d : decide ((200 : Int) < (sg.lines.length : Int)) = true := decide_eq_true (by omega)
   have h1e : decide (200 < sg.lines.length) = true := decide_eq_true h1
   have HE : Hid (longV sg = true) := Lib.hid (by rw [HL.out, h1e]; rfl)
   clear h1
   go_wp2_with fail
   go_ret2
   exact ⟨.inl ⟨HE.out, rfl⟩, HB3.out⟩
  ·have h1d : decide ((200 : Int) < (sg.lines.length : Int)) = false := decide_eq_false (by omega)
   have h1e : decide (200 < sg.lines.length) = false := decide_eq_false h1
   have h2d : decide ((4000 : Int) < (sg.cells : Int)) = true := decide_eq_true (by omega)
   have h2e : decide (4000 < sg.cells) = true := decide_eq_true h2
   have HE : Hid (longV sg = true) := Lib.hid (by rw [HL.out, h1e, h2e]; rfl)
   clear h1 h2
   go_wp2_with fail
   go_ret2
   exact ⟨.inl ⟨HE.out, rfl⟩, HB3.out⟩
  ·have h1d : decide ((200 : Int) < (sg.lines.length : Int)) = false := decide_eq_false (by omega)
   have h1e : decide (200 < sg.lines.length) = false := decide_eq_false h1
   have h2d : decide ((4000 : Int) < (sg.cells : Int)) = false := decide_eq_false (by omega)
   have h2e : decide (4000 < sg.cells) = false := decide_eq_false h2
   have HE : Hid (longV sg = false) := Lib.hid (by rw [HL.out, h1e, h2e]; rfl)
   clear h1 h2
   go_wp2_with fail
   go_ret2
   exact ⟨.inr ⟨HE.out, _, _, _, rfl, HV3.out, Nat.le_succ _⟩, HB3.out⟩
 ·have hl0 : ((sn.lines.length : Int) == 0) = false := beq_eq_false_iff_ne.2 (by have := List.length_pos_iff.2 hl; omega)
  have hl1 : 0 < sn.lines.length := List.length_pos_iff.2 hl
  have HE : Hid (goesV n p = sn) := Lib.hid (by rw [HGo.out, if_neg hl])
  have hv3 := HV2.out
  rw [← HE.out] at hv3 p2 hl0 hl1
  clear hl HGo HV2
  have hb3 := HB2.out
  clear HCn HNd HE
  generalize goesV n p = sg at *
  go_upto_region 6 with fail
  clear p2 f2 HB2 hl0 hl1
  obtain ⟨la3, lc3, na3, nc3, hlv3, hB3⟩ := hv3.open
  obtain ⟨p3, f3⟩ := blk hB3
  have HV3 := Lib.hid hv3
  have HB3 := Lib.hid hb3
  have HL : Hid (longV sg = (decide (200 < sg.lines.length) || decide (4000 < sg.cells))) := Lib.hid rfl
  clear hv3 hB3 hb3 hlv3
  have hcs : (200 < sg.lines.length) ∨ (¬ 200 < sg.lines.length ∧ 4000 < sg.cells) ∨ (¬ 200 < sg.lines.length ∧ ¬ 4000 < sg.cells) := by omega
  rcases hcs with h1 | ⟨h1, h2⟩ | ⟨h1, h2⟩
  ·have h1d : decide ((200 : Int) < (sg.lines.length : Int)) = true := decide_eq_true (by omega)
   have h1e : decide (200 < sg.lines.length) = true := decide_eq_true h1
   have HE : Hid (longV sg = true) := Lib.hid (by rw [HL.out, h1e]; rfl)
   clear h1
   go_wp2_with fail
   go_ret2
   exact ⟨.inl ⟨HE.out, rfl⟩, HB3.out⟩
  ·have h1d : decide ((200 : Int) < (sg.lines.length : Int)) = false := decide_eq_false (by omega)
   have h1e : decide (200 < sg.lines.length) = false := decide_eq_false h1
   have h2d : decide ((4000 : Int) < (sg.cells : Int)) = true := decide_eq_true (by omega)
   have h2e : decide (4000 < sg.cells) = true := decide_eq_true h2
   have HE : Hid (longV sg = true) := Lib.hid (by rw [HL.out, h1e, h2e]; rfl)
   clear h1 h2
   go_wp2_with fail
   go_ret2
   exact ⟨.inl ⟨HE.out, rfl⟩, HB3.out⟩
  ·have h1d : decide ((200 : Int) < (sg.lines.length : Int)) = false := decide_eq_false (by omega)
   have h1e : decide (200 < sg.lines.length) = false := decide_eq_false h1
   have h2d : decide ((4000 : Int) < (sg.cells : Int)) = false := decide_eq_false (by omega)
   have h2e : decide (4000 < sg.cells) = false := decide_eq_false h2
   have HE : Hid (longV sg = false) := Lib.hid (by rw [HL.out, h1e, h2e]; rfl)
   clear h1 h2
   go_wp2_with fail
   go_ret2
   exact ⟨.inr ⟨HE.out, _, _, _, rfl, HV3.out, Nat.le_succ _⟩, HB3.out⟩
set_option maxRecDepth 100000 in
set_option maxHeartbeats 4000000 in
theorem view_any (HCs : CssP) (h : Nat) (n : Nod) (na nk : Value) (w w0 : World) (S : Nat → Prop) (hA : AttsR false w0 S na n.attrs) (hK : NodsR false h w0 S nk n.kids) (he : EnvT w0) (h0 : Below w0.heap.size w0 w) (hav : AvN n) (hc : capM n ≤ 3900000) :
  Calls Tryz.prog 12 #[nodV n na nk] w fun e w' => ∃ va vc, e = .returned (.tuple #[.slice va (viewN n).1.length vc, .int .i64 (viewN n).2]) ∧ DocR true w' (fun b => w.heap.size ≤ b) (.slice va (viewN n).1.length vc) (viewN n).1 ∧ Below w.heap.size w w' := by
 have HG : Hid (∀ W, Below w.heap.size w W → Calls Tryz.prog 39 #[nodV n na nk, .pointer none] W (GoesSaid (goesV n none) W)) := Lib.hid fun W hW => goes_any HCs h n na nk _ none W w0 S S hA hK he (below_from h0 hW) hav hc (.inl ⟨rfl, rfl⟩)
 obtain ⟨la, lc, rfl⟩ := hA.slice
 obtain ⟨ka, kc, rfl⟩ := hK.slice
 obtain ⟨W1, hW1, hB, hz, hB1⟩ := one_node w (.int .i64 n.tag) (.slice la n.attrs.length lc) (.string ⟨n.text.toArray⟩) (.slice ka n.kids.length kc)
 have HB := Lib.hid hB
 obtain ⟨p1, f1⟩ := blk hB1
 have HVn : Hid (viewN n = if longV (goesV n none) = true then ([], 10) else ((goesV n none).lines, 0)) := Lib.hid rfl
 generalize goesV n none = s at *
 clear hA hK he h0 hav hc hz hB hB1
 unfold nodV at *
 go_enter Tryz.func12, Tryz.ntmps12
 go_upto_region 2 with (go_at_call 39; refine (HG.out _ HB.out).mono ?_; rintro e w2 ⟨⟨hlg, rfl⟩ | ⟨hlg, B2, a2, lv2, rfl, hv2, hB2⟩, hb2⟩)
 ·have HE : Hid (viewN n = ([], 10)) := Lib.hid (by rw [HVn.out, if_pos hlg])
  clear hlg
  go_wp2_with fail
  go_ret2
  rw [HE.out]
  exact ⟨none, 0, rfl, SliceR.nil _ _ _ _ _ _, below_from HB.out hb2⟩
 ·have HE : Hid (viewN n = (s.lines, 0)) := Lib.hid (by rw [HVn.out, if_neg (by rw [hlg]; simp)])
  obtain ⟨lns, xs, hBl, hI, hL, hx⟩ := hv2
  have hD := hL.doc
  rw [hx] at hD
  obtain ⟨va, vc, rfl⟩ := hD.slice
  unfold walkC at hBl
  obtain ⟨p2, f2⟩ := blk hBl
  have HD := Lib.hid hD
  have hBw : w.heap.size ≤ B2 + 1 := by have := HB.out.size; omega
  clear hlg hBl hI hL hx hD
  go_wp2_with fail
  go_ret2
  rw [HE.out]
  exact ⟨_, _, rfl, HD.out.stable (rdLin_stable _) (Keeps.refl _ _) (fun b hb _ => Nat.le_trans hBw hb), below_from HB.out hb2⟩
end Go.Proofs.YtjpgffihafknlaaGreatDoor
namespace Go.Proofs.YtjpgffihafknlaaGreatDoor
open Go.RowKit
open Go.Proofs.Qw
attribute [local go_sem] Oper.semAt_some
theorem results_psE {fn : Func} {t p : Tmp} (h : fn.results = #[.cell p 46, .tmp t]) (tmps : Array Value) (w : World) (B : Nat) (x y : Value) (hp : tmps.getD p undef = .pointer (some ⟨B, 0, none⟩)) (hB : w.heap[B]? = some (.cells #[x, y] 46)) :
  (results fn tmps).run Tryz.prog w = .ok (.tuple #[.agg #[x, y], tmps.getD t undef]) w := by
 have hp' : tmps[p]?.getD undef = .pointer (some ⟨B, 0, none⟩) := by simpa using hp
 have h1 := run_loadVar_row (P := Tryz.prog) w B 46 46 _ _ _ hB Tryz.underlying46 rfl (by kernel_rfl)
 simp [results, h, hp', asAddr, h1]
set_option maxRecDepth 100000 in
set_option maxHeartbeats 4000000 in
theorem pos_any (HCs : CssP) (h : Nat) (n : Nod) (na nk pv : Value) (path : List Int) (k : Int) (w w0 : World) (S S' : Nat → Prop) (hA : AttsR false w0 S na n.attrs) (hK : NodsR false h w0 S nk n.kids) (he : EnvT w0) (h0 : Below w0.heap.size w0 w) (hav : AvN n) (hc : capM n ≤ 3900000) (hp : IntsR false w0 S' pv path) :
  Calls Tryz.prog 19 #[nodV n na nk, .agg #[pv, .int .i64 k]] w fun e w' => e = .returned (.tuple #[.agg #[.int .i64 (posN n (path, k)).1.line, .int .i64 (posN n (path, k)).1.col], .int .i64 (posN n (path, k)).2]) ∧ Below w.heap.size w w' := by
 obtain ⟨la, lc, rfl⟩ := hA.slice
 obtain ⟨ka, kc, rfl⟩ := hK.slice
 obtain ⟨pa, pc, rfl⟩ := hp.slice
 obtain ⟨W1, hW1, hB, z1, z2, z3⟩ := three_objs w (.cells #[.int .i64 n.tag, .slice la n.attrs.length lc, .string ⟨n.text.toArray⟩, .slice ka n.kids.length kc] 25) (.cells #[.slice pa path.length pc, .int .i64 k] 44) (.cells #[.int .i64 0, .int .i64 0] 46)
 have HG : Hid (Calls Tryz.prog 39 #[.agg #[.int .i64 n.tag, .slice la n.attrs.length lc, .string ⟨n.text.toArray⟩, .slice ka n.kids.length kc], .pointer (some ⟨w.heap.size + 1, 0, none⟩)] W1 (GoesSaid (goesV n (some (path, k))) W1)) := Lib.hid (goes_any HCs h n _ _ _ (some (path, k)) W1 w0 S S' hA hK he (below_from h0 hB) hav hc (.inr ⟨path, k, w.heap.size + 1, _, rfl, rfl, lt_of_heap z2, z2, hp⟩))
 have HP : Hid (posN n (path, k) = if longV (goesV n (some (path, k))) = true then (⟨0, 0⟩, 10) else if (goesV n (some (path, k))).spot = 1 then (⟨((goesV n (some (path, k))).lines.length : Int) - 1, (((goesV n (some (path, k))).lines.getLastD default).cells.length : Int)⟩, 0) else ((goesV n (some (path, k))).pos, 0)) := Lib.hid rfl
 have hne := (goes_ok n (some (path, k))).2
 generalize goesV n (some (path, k)) = s at *
 generalize posN n (path, k) = r at *
 have HB := Lib.hid hB
 have HW1 := Lib.hid hW1
 have HZ3 := Lib.hid z3
 obtain ⟨p1, f1⟩ := blk z1
 rw [← hW1] at p1 f1
 clear hA hK he h0 hav hc hp hW1 hB z1 z2 z3
 unfold nodV
 go_enter Tryz.func19, Tryz.ntmps19
 go_upto_region 2 with (go_at_call 39; rw [HW1.out]; refine HG.out.mono ?_; rintro e w2 ⟨⟨hlg, rfl⟩ | ⟨hlg, B2, a2, lv2, rfl, hv2, hB2⟩, hb2⟩)
 ·have HE : Hid (r = (⟨0, 0⟩, 10)) := Lib.hid (by rw [HP.out, if_pos hlg])
  have z4 := heap_below hb2 HZ3.out
  obtain ⟨p4, f4⟩ := blk z4
  have HZ4 := Lib.hid z4
  clear hlg p1 f1 hne z4
  go_wp2_with fail
  refine bodyPost_ret (results_psE rfl _ _ (w.heap.size + 1 + 1) (.int .i64 0) (.int .i64 0) rfl (setCell_heap (setCell_heap HZ4.out _) _)) rfl ?_
  rw [HE.out]
  exact ⟨rfl, ((below_from HB.out hb2).setCell (by simp; omega) _).setCell (by simp; omega) _⟩
 ·have z4 := heap_below hb2 HZ3.out
  obtain ⟨lns, xs, hBl, hI, hL, hx⟩ := hv2
  obtain ⟨m, l, hml⟩ := snoc_of hne
  obtain ⟨xs0, z, rfl⟩ : ∃ xs0 z, xs = xs0 ++ [z] := by
   have hne : xs ≠ [] := fun e => by subst e; rw [hml] at hx; simp at hx
   exact ⟨xs.dropLast, xs.getLast hne, (List.dropLast_concat_getLast hne).symm⟩
  have hxl : s.lines.length = xs0.length + 1 := by rw [← hx]; simp
  obtain ⟨b, o, c, ca, cc, rfl, hc1, hc2, hbn, hbz, ⟨cs, hbh, hbs⟩, d3, hCR, _, _⟩ := hL.last
  have hlast : (s.lines.getLastD default).cells = z.1.cells := by rw [← hx]; simp [List.getLastD_eq_getLast?]
  obtain ⟨hcl1, hcl2⟩ : z.1.cells.length ≤ cc ∧ cc ≤ maxLen := ⟨(SliceR.len hCR).2.1, (SliceR.len hCR).2.2⟩
  have hN4 : ¬ w.heap.size + 1 + 1 = B2 := fun e => by subst e; have h1 := hBl.symm.trans z4; injection h1 with h1; injection h1 with _ h2; exact absurd h2 (by decide)
  have hN5 : ¬ B2 = w.heap.size + 1 + 1 := fun e => hN4 e.symm
  obtain ⟨p4, f4⟩ := blk z4
  have HZ4 := Lib.hid z4
  have HB2 := Lib.hid (below_from HB.out hb2)
  unfold walkC at hBl
  obtain ⟨p2, f2⟩ := blk hBl
  have i0 : (0 : Int) ≤ (xs0.length : Int) := Int.natCast_nonneg _
  unfold maxLen at hc2 hcl2
  by_cases hsp : s.spot = 1
  ·have HE : Hid (r = (⟨(xs0.length : Int), (z.1.cells.length : Int)⟩, 0)) := Lib.hid (by rw [HP.out, if_neg (by rw [hlg]; simp), if_pos hsp, hlast, hxl]; simp)
   have hb1 : (s.spot == 1) = true := by simpa using hsp
   rw [hsp] at p2
   clear hlg p1 f1 hne z4 hBl hI hL hx hml hxl hlast hsp hCR hbh hbs HB hb2 HP
   go_wp2_with fail
   refine bodyPost_ret (results_psE rfl _ _ (w.heap.size + 1 + 1) (.int .i64 xs0.length) (.int .i64 z.1.cells.length) rfl (setCell_heap (setCell_heap HZ4.out _) _)) rfl ?_
   rw [HE.out]
   exact ⟨rfl, (HB2.out.setCell (by simp; omega) _).setCell (by simp; omega) _⟩
  ·have HE : Hid (r = (s.pos, 0)) := Lib.hid (by rw [HP.out, if_neg (by rw [hlg]; simp), if_neg hsp])
   have hb1 : (s.spot == 1) = false := by simpa using hsp
   clear hlg p1 f1 hne z4 hBl hI hL hx hml hxl hlast hsp hCR hbh hbs HB hb2 HP
   go_wp2_with fail
   refine bodyPost_ret (results_psE rfl _ _ (w.heap.size + 1 + 1) (.int .i64 s.pos.line) (.int .i64 s.pos.col) rfl (setCell_heap (setCell_heap HZ4.out _) _)) rfl ?_
   rw [HE.out]
   exact ⟨rfl, (HB2.out.setCell (by simp; omega) _).setCell (by simp; omega) _⟩
end Go.Proofs.YtjpgffihafknlaaGreatDoor
namespace Go.Proofs.Qw
open Go.RowKit
mutual
def InlN : Nod → Prop | .mk t _ x ks => (t = 0 ∧ ∀ c ∈ runesB ⟨x.toArray⟩, mayR c = true) ∨ t = 16 ∨ (tagC t = 4 ∧ InlK ks)
def InlK : List Nod → Prop | [] => True | k :: ks => InlN k ∧ InlK ks
end
def baseV (s : VSt) : Ps := if s.opn = true then ⟨(s.lines.length : Int) - 1, ((s.lines.getLastD default).cells.length : Int)⟩ else ⟨s.lines.length, 0⟩
def addB (b : Ps) (c : Int) : Ps := ⟨b.line, b.col + c⟩
def told (s : VSt) : Option Ps := if s.spot = 0 then none else if s.spot = 1 then some ⟨s.lines.length, 0⟩ else some s.pos
structure KSt (s : VSt) : Prop where
 open_ : s.opn = true → s.lines ≠ []
 waits : s.spot = 1 → s.opn = false
theorem told_begin (a : Aro) {s : VSt} (_ : KSt s) : told (beginV a s) = told s ∧ KSt (beginV a s) ∧ ((beginV a s).spot = 0 ↔ s.spot = 0) := by
 refine ⟨?_, ⟨fun _ => by simp [beginV], fun e => ?_⟩, ?_⟩
 ·unfold told beginV
  simp only
  by_cases h1 : s.spot = 1
  ·simp [h1]
  ·simp [h1]
 ·unfold beginV at e
  simp only at e
  split at e
  ·omega
  ·rename_i h; exact absurd e h
 ·unfold beginV
  simp only
  split <;> omega
theorem told_add (a : Aro) (c : Int) {s : VSt} (h : KSt s) (ho : s.opn = true) : told (addV a c s) = told s ∧ KSt (addV a c s) ∧ ((addV a c s).spot = 0 ↔ s.spot = 0) := by
 have h1 : ¬ s.spot = 1 := fun e => by have := h.waits e; rw [ho] at this; cases this
 refine ⟨?_, ⟨fun _ => (lastD_size ⟨c, a.bits, a.href⟩ (h.open_ ho)).2, fun e => absurd e h1⟩, Iff.rfl⟩
 unfold told
 have e1 : (addV a c s).spot = s.spot := rfl
 have e2 : (addV a c s).pos = s.pos := rfl
 rw [e1, e2, if_neg h1, if_neg h1]
theorem told_put (a : Aro) (c : Int) {s : VSt} (h : KSt s) : told (putV a c s) = told s ∧ KSt (putV a c s) ∧ ((putV a c s).spot = 0 ↔ s.spot = 0) := by
 unfold putV
 by_cases ho : s.opn = true
 ·rw [if_pos ho]; exact told_add a c h ho
 ·rw [if_neg ho]
  obtain ⟨h1, h2, h3⟩ := told_begin a h
  obtain ⟨k1, k2, k3⟩ := told_add a c h2 rfl
  exact ⟨k1.trans h1, k2, k3.trans h3⟩
theorem told_close {s : VSt} (h : KSt s) : told { s with opn := false } = told s ∧ KSt { s with opn := false } ∧ (({ s with opn := false } : VSt).spot = 0 ↔ s.spot = 0) := ⟨rfl, ⟨(fun e => by cases e), fun _ => rfl⟩, Iff.rfl⟩
theorem told_text (a : Aro) : ∀ (l : List Int) (s : VSt), KSt s → told (textV a l none s) = told s ∧ KSt (textV a l none s) ∧ ((textV a l none s).spot = 0 ↔ s.spot = 0)
 | [], s, h => ⟨rfl, h, Iff.rfl⟩
 | c :: l, s, h => by
  rw [textV_cons]
  cases flatC c with
  | none => exact told_text a l s h
  | some x =>
   obtain ⟨h1, h2, h3⟩ := told_put a x h
   obtain ⟨k1, k2, k3⟩ := told_text a l (putV a x s) h2
   exact ⟨k1.trans h1, k2, k3.trans h3⟩
theorem told_node (n : Nod) : ∀ a s, AroOk a → KSt s → told (nodeV n a none s) = told s ∧ KSt (nodeV n a none s) ∧ ((nodeV n a none s).spot = 0 ↔ s.spot = 0) := by
 refine Nod.rec (motive_1 := fun n => ∀ a s, AroOk a → KSt s → told (nodeV n a none s) = told s ∧ KSt (nodeV n a none s) ∧ ((nodeV n a none s).spot = 0 ↔ s.spot = 0)) (motive_2 := fun ks => ∀ i a s, AroOk a → KSt s → told (kidsV ks i a none s) = told s ∧ KSt (kidsV ks i a none s) ∧ ((kidsV ks i a none s).spot = 0 ↔ s.spot = 0)) ?_ ?_ ?_ n
 ·intro t ats x ks ih a s ha h
  by_cases h1 : tagC t = 1
  ·rw [nodeV]; simp only [if_pos h1]; exact told_text a _ s h
  by_cases h5 : tagC t = 5
  ·rw [nodeV]; simp only [if_neg h1, if_pos h5]; exact told_put a 10 h
  rw [node_shape ha h1 h5]
  rw [show normP t ks.length none = none from rfl]
  have hi := inner_ok (.mk t ats x ks) ha
  split
  ·unfold lineV
   simp only
   obtain ⟨c1, c2, c3⟩ := told_close h
   obtain ⟨k1, k2, k3⟩ := ih 0 (innerA (.mk t ats x ks) a) { s with opn := false } hi c2
   split
   ·obtain ⟨b1, b2, b3⟩ := told_begin (innerA (.mk t ats x ks) a) k2
    obtain ⟨d1, d2, d3⟩ := told_close b2
    exact ⟨((d1.trans b1).trans k1).trans c1, d2, ((d3.trans b3).trans k3).trans c3⟩
   ·obtain ⟨d1, d2, d3⟩ := told_close k2
    exact ⟨(d1.trans k1).trans c1, d2, (d3.trans k3).trans c3⟩
  ·split
   ·obtain ⟨c1, c2, c3⟩ := told_close h
    obtain ⟨k1, k2, k3⟩ := ih 0 (innerA (.mk t ats x ks) a) { s with opn := false } hi c2
    obtain ⟨d1, d2, d3⟩ := told_close k2
    exact ⟨(d1.trans k1).trans c1, d2, (d3.trans k3).trans c3⟩
   ·exact ih 0 _ s hi h
 ·intro i a s _ h
  rw [kidsV_nil]
  exact ⟨rfl, h, Iff.rfl⟩
 ·intro n ks hn hks i a s ha h
  rw [kidsV_cons]
  obtain ⟨h1, h2, h3⟩ := hn a s ha h
  obtain ⟨k1, k2, k3⟩ := hks (i + 1) a (nodeV n a none s) ha h2
  exact ⟨k1.trans h1, k2, k3.trans h3⟩
theorem told_kids (a : Aro) (ha : AroOk a) : ∀ (ks : List Nod) (i : Nat) (s : VSt), KSt s → told (kidsV ks i a none s) = told s ∧ KSt (kidsV ks i a none s) ∧ ((kidsV ks i a none s).spot = 0 ↔ s.spot = 0)
 | [], i, s, h => by rw [kidsV_nil]; exact ⟨rfl, h, Iff.rfl⟩
 | n :: ks, i, s, h => by
  rw [kidsV_cons]
  obtain ⟨h1, h2, h3⟩ := told_node n a s ha h
  obtain ⟨k1, k2, k3⟩ := told_kids a ha ks (i + 1) (nodeV n a none s) h2
  exact ⟨k1.trans h1, k2, k3.trans h3⟩
theorem met_none {s : VSt} (h : s.spot ≠ 0) : metV s = s := by unfold metV; rw [if_pos h]
theorem kids_past (a : Aro) : ∀ (ks : List Nod) (i : Nat) (j : Int) (q : List Int) (k : Int) (s : VSt), j < i → kidsV ks i a (some (j :: q, k)) s = kidsV ks i a none s
 | [], i, j, q, k, s, _ => by rw [kidsV_nil, kidsV_nil]
 | n :: ks, i, j, q, k, s, h => by
  rw [kidsV_cons, kidsV_cons]
  show kidsV ks (i + 1) a _ (if j = (i : Int) then nodeV n a (some (q, k)) s else nodeV n a none s) = _
  rw [if_neg (by omega)]
  exact kids_past a ks (i + 1) j q k _ (by omega)
theorem kids_gone (a : Aro) (ha : AroOk a) : ∀ (ks : List Nod) (i : Nat) (k : Int) (s : VSt), KSt s → s.spot ≠ 0 → kidsV ks i a (some ([], k)) s = kidsV ks i a none s
 | [], i, k, s, _, h => by rw [kidsV_nil, kidsV_nil]; exact met_none h
 | n :: ks, i, k, s, hk, h => by
  rw [kidsV_cons, kidsV_cons]
  show kidsV ks (i + 1) a _ (nodeV n a none (if k = (i : Int) then metV s else s)) = _
  have e : (if k = (i : Int) then metV s else s) = s := by split; exact met_none h; rfl
  rw [e]
  obtain ⟨_, h2, h3⟩ := told_node n a s ha hk
  exact kids_gone a ha ks (i + 1) k _ h2 (fun e => h (h3.1 e))
theorem put_base (a : Aro) (c : Int) {s : VSt} (h : KSt s) : baseV (putV a c s) = addB (baseV s) 1 ∧ (putV a c s).opn = true := by
 have go : ∀ s : VSt, s.opn = true → s.lines ≠ [] → baseV (addV a c s) = addB (baseV s) 1 := fun s ho hn => by
  have e1 : (addV a c s).opn = true := ho
  have e2 : (addV a c s).lines = addE ⟨c, a.bits, a.href⟩ s.lines := rfl
  obtain ⟨m, l, hd⟩ : ∃ m l, s.lines = m ++ [l] := ⟨s.lines.dropLast, s.lines.getLast hn, (List.dropLast_concat_getLast hn).symm⟩
  have e3 : addE ⟨c, a.bits, a.href⟩ s.lines = m ++ [{ l with cells := l.cells ++ [⟨c, a.bits, a.href⟩] }] := by rw [hd]; unfold addE lastD; simp
  unfold baseV
  rw [if_pos e1, if_pos ho, e2, e3, hd]
  unfold addB
  simp
 unfold putV
 by_cases ho : s.opn = true
 ·rw [if_pos ho]
  exact ⟨go s ho (h.open_ ho), ho⟩
 ·rw [if_neg ho]
  refine ⟨(go (beginV a s) rfl (by simp [beginV])).trans ?_, rfl⟩
  congr 1
  unfold baseV
  rw [if_pos (show (beginV a s).opn = true from rfl), if_neg ho]
  unfold beginV
  simp [frameA]
theorem addB_add (b : Ps) (x y : Int) : addB (addB b x) y = addB b (x + y) := by unfold addB; simp only [Int.add_assoc]
theorem addB_zero (b : Ps) : addB b 0 = b := by unfold addB; simp
theorem text_base (a : Aro) : ∀ (l : List Int) (s : VSt), (∀ c ∈ l, mayR c = true) → KSt s → baseV (textV a l none s) = addB (baseV s) l.length
 | [], s, _, _ => by rw [textV_nil]; simp [addB_zero]
 | c :: l, s, hc, h => by
  rw [textV_cons, flat_may c (hc c (by simp))]
  show baseV (textV a l none (putV a c s)) = _
  rw [text_base a l _ (fun x hx => hc x (by simp [hx])) (told_put a c h).2.1, (put_base a c h).1, addB_add]
  congr 1
  simp
  omega
theorem met_open {s : VSt} (h0 : s.spot = 0) (ho : s.opn = true) (h : KSt s) : told (metV s) = some (baseV s) ∧ KSt (metV s) ∧ (metV s).spot ≠ 0 := by
 have e : metV s = { s with spot := 2, pos := ⟨(s.lines.length : Int) - 1, ((s.lines.getLastD default).cells.length : Int)⟩ } := by unfold metV; rw [if_neg (by simp [h0]), if_pos ho]
 rw [e]
 refine ⟨?_, ⟨h.open_, (fun e => by simp at e)⟩, by simp⟩
 unfold told baseV
 simp [ho]
theorem text_gone (a : Aro) : ∀ (l : List Int) (k : Int) (s : VSt), k < 0 → textV a l (some k) s = textV a l none s
 | [], k, s, h => by rw [textV_nil, textV_nil]; simp; omega
 | c :: l, k, s, h => by
  rw [textV_cons, textV_cons]
  have e : ¬ (some k = some (0 : Int)) := by simp; omega
  simp only [if_neg e, reduceCtorEq, if_false]
  show textV a l (some (k - 1)) _ = textV a l none _
  exact text_gone a l (k - 1) _ (by omega)
theorem text_place (a : Aro) : ∀ (l : List Int) (k : Nat) (s : VSt), (∀ c ∈ l, mayR c = true) → k ≤ l.length → KSt s → s.spot = 0 → (s.opn = true ∨ 1 ≤ k) → told (textV a l (some (k : Int)) s) = some (addB (baseV s) k) ∧ KSt (textV a l (some (k : Int)) s)
 | [], k, s, _, hk, h, h0, ho => by
  simp at hk
  subst hk
  rw [textV_nil]
  have ho : s.opn = true := ho.resolve_right (by omega)
  have := met_open h0 ho h
  simp only [Int.natCast_zero, Int.le_refl, if_true, addB_zero]
  exact ⟨this.1, this.2.1⟩
 | c :: l, k, s, hc, hk, h, h0, ho => by
  rw [textV_cons, flat_may c (hc c (by simp))]
  have hl : ∀ x ∈ l, mayR x = true := fun x hx => hc x (by simp [hx])
  cases k with
  | zero =>
   have ho : s.opn = true := ho.resolve_right (by omega)
   obtain ⟨m1, m2, m3⟩ := met_open h0 ho h
   show told (textV a l (some (0 - 1)) (putV a c (metV s))) = _ ∧ KSt (textV a l (some (0 - 1)) (putV a c (metV s)))
   rw [text_gone a l _ _ (by omega)]
   obtain ⟨p1, p2, _⟩ := told_put a c m2
   obtain ⟨t1, t2, _⟩ := told_text a l _ p2
   exact ⟨(t1.trans p1).trans (m1.trans (by simp [addB_zero])), t2⟩
  | succ k =>
   have e : ¬ (some ((k + 1 : Nat) : Int) = some (0 : Int)) := by simp; omega
   simp only [if_neg e]
   show told (textV a l (some (((k + 1 : Nat) : Int) - 1)) (putV a c s)) = _ ∧ KSt (textV a l (some (((k + 1 : Nat) : Int) - 1)) (putV a c s))
   rw [show ((k + 1 : Nat) : Int) - 1 = (k : Int) by omega]
   obtain ⟨p1, p2, p3⟩ := told_put a c h
   obtain ⟨b1, b2⟩ := put_base a c h
   have := text_place a l k (putV a c s) hl (by simpa using hk) p2 (p3.2 h0) (.inl b2)
   rw [b1, addB_add] at this
   refine ⟨this.1.trans ?_, this.2⟩
   congr 2
   omega
theorem inl_tag {t : Int} (h : tagC t = 4) : t ≠ 0 ∧ t ≠ 16 ∧ tagC t ≠ 1 ∧ tagC t ≠ 5 ∧ tagC t ≠ 3 ∧ tagC t ≠ 2 := ⟨fun e => by rw [e] at h; exact absurd h (by decide), fun e => by rw [e] at h; exact absurd h (by decide), by omega, by omega, by omega, by omega⟩
theorem inl_base (n : Nod) : ∀ a s, AroOk a → InlN n → KSt s → baseV (nodeV n a none s) = addB (baseV s) (cellsN n) := by
 refine Nod.rec (motive_1 := fun n => ∀ a s, AroOk a → InlN n → KSt s → baseV (nodeV n a none s) = addB (baseV s) (cellsN n)) (motive_2 := fun ks => ∀ i a s, AroOk a → InlK ks → KSt s → baseV (kidsV ks i a none s) = addB (baseV s) (cellsK ks)) ?_ ?_ ?_ n
 ·intro t ats x ks ih a s ha hi h
  rw [InlN] at hi
  rcases hi with ⟨rfl, hc⟩ | rfl | ⟨h4, hk⟩
  ·rw [nodeV, cellsN]
   simp only [if_pos (show tagC 0 = 1 by decide)]
   show baseV (textV a _ none s) = _
   rw [text_base a _ s hc h]
   congr 2
   have : ∀ l : List Int, (∀ c ∈ l, mayR c = true) → l.filterMap flatC = l := by
    intro l
    induction l with
    | nil => intro _; rfl
    | cons c l ih => intro hc; rw [List.filterMap_cons, flat_may c (hc c (by simp)), ih (fun x hx => hc x (by simp [hx]))]
   rw [this _ hc]
  ·rw [nodeV, cellsN]
   simp only [if_neg (show ¬ tagC 16 = 1 by decide), if_pos (show tagC 16 = 5 by decide)]
   exact (put_base a 10 h).1
  ·obtain ⟨_, _, h1, h5, h3, h2⟩ := inl_tag h4
   rw [node_shape ha h1 h5, if_neg h3, if_neg h2, cellsN, if_neg h1, if_neg h5]
   exact ih 0 _ s (inner_ok _ ha) hk h
 ·intro i a s _ _ _
  rw [kidsV_nil, cellsK]
  simp [addB_zero]
 ·intro n ks hn hks i a s ha hi h
  rw [InlK] at hi
  rw [kidsV_cons, cellsK]
  show baseV (kidsV ks (i + 1) a none (nodeV n a none s)) = _
  rw [hks (i + 1) a _ ha hi.2 (told_node n a s ha h).2.1, hn a s ha hi.1 h, addB_add]
  congr 1
def LeadK (j : Nat) (ks : List Nod) (r : List Int) (k : Int) : Prop :=
 match r with
 | [] => (j : Int) ≤ k ∧ k ≤ j + ks.length
 | i :: q => (j : Int) ≤ i ∧ i < j + ks.length ∧ (reachN (ks.getD (i.toNat - j) default) q).1 = q.length ∧ 0 ≤ k ∧ ((reachN (ks.getD (i.toNat - j) default) q).2.tag = 0 ∨ k ≤ (reachN (ks.getD (i.toNat - j) default) q).2.kids.length)
theorem LeadK.cons {j : Nat} {ks : List Nod} {r : List Int} {k : Int} (n : Nod) (h : LeadK (j + 1) ks r k) : LeadK j (n :: ks) r k := by
 cases r with
 | nil =>
  unfold LeadK at *
  simp only [List.length_cons] at *
  omega
 | cons i q =>
  unfold LeadK at *
  simp only at *
  obtain ⟨h1, h2, h3, h4, h5⟩ := h
  have e : (n :: ks).getD (i.toNat - j) default = ks.getD (i.toNat - (j + 1)) default := by
   rw [show i.toNat - j = (i.toNat - (j + 1)) + 1 by omega]; rfl
  rw [e]
  exact ⟨by omega, by simp; omega, h3, h4, h5⟩
theorem lead_norm {t : Int} (ht : asideT t = false) {ks : List Nod} {r : List Int} {k : Int} (h : LeadK 0 ks r k) : normP t ks.length (some (r, k)) = some (r, k) := by
 cases r with
 | nil =>
  unfold LeadK at h
  simp only at h
  rw [normP_nil, if_neg (by omega)]
 | cons i q =>
  unfold LeadK at h
  simp only at h
  obtain ⟨h1, h2, _, h4, _⟩ := h
  rw [norm_cons, if_neg (by rw [ht]; simp; omega), if_neg (by omega)]
theorem findK_mk (t : Int) (ats : List Att) (x : List UInt8) (kk ks : List Nod) (j : Nat) (p : List Int) (i : Nat) : findK (.mk t ats x kk :: ks) j p i = if tagC t = 3 then (match i with | 0 => .inl (p ++ [(j : Int)], .mk t ats x kk) | i + 1 => findK ks (j + 1) p i) else match findN (.mk t ats x kk) (p ++ [(j : Int)]) i with | .inl r => .inl r | .inr i => findK ks (j + 1) p i := findK_cons _ _ _ _ _
theorem leafK_mk (t : Int) (ats : List Att) (x : List UInt8) (kk ks : List Nod) (j : Nat) (p : List Int) (c : Int) : leafK (.mk t ats x kk :: ks) j p c = if t = 16 then (if c = 1 then .inl (p, (j : Int) + 1) else leafK ks (j + 1) p (c - 1)) else if t ≠ 0 then (match leafF (.mk t ats x kk) (p ++ [(j : Int)]) c with | .inl r => .inl r | .inr c => leafK ks (j + 1) p c) else if c ≤ ((runesB ⟨x.toArray⟩).length : Int) then .inl (p ++ [(j : Int)], c) else leafK ks (j + 1) p (c - ((runesB ⟨x.toArray⟩).length : Int)) := leafK_cons _ _ _ _ _
theorem kids_here (a : Aro) (ha : AroOk a) (ks : List Nod) (i : Nat) (s : VSt) (h : KSt s) (h0 : s.spot = 0) (ho : s.opn = true) : told (kidsV ks i a (some ([], (i : Int))) s) = some (baseV s) ∧ KSt (kidsV ks i a (some ([], (i : Int))) s) := by
 obtain ⟨m1, m2, m3⟩ := met_open h0 ho h
 cases ks with
 | nil => rw [kidsV_nil]; exact ⟨m1, m2⟩
 | cons n ks =>
  rw [kidsV_cons]
  show told (kidsV ks (i + 1) a _ (nodeV n a none (if (i : Int) = (i : Int) then metV s else s))) = _ ∧ KSt (kidsV ks (i + 1) a _ (nodeV n a none (if (i : Int) = (i : Int) then metV s else s)))
  rw [if_pos rfl]
  obtain ⟨q1, q2, q3⟩ := told_node n a _ ha m2
  rw [kids_gone a ha ks (i + 1) _ _ q2 (fun e => m3 (q3.1 e))]
  obtain ⟨t1, t2, _⟩ := told_kids a ha ks (i + 1) _ q2
  exact ⟨(t1.trans q1).trans m1, t2⟩
theorem cells_inl {x : List UInt8} (h : ∀ c ∈ runesB ⟨x.toArray⟩, mayR c = true) (ats : List Att) (kk : List Nod) : cellsN (.mk 0 ats x kk) = (runesB ⟨x.toArray⟩).length := by
 rw [cellsN, if_pos (by decide)]
 have : ∀ l : List Int, (∀ c ∈ l, mayR c = true) → l.filterMap flatC = l := by
  intro l
  induction l with
  | nil => intro _; rfl
  | cons c l ih => intro hc; rw [List.filterMap_cons, flat_may c (hc c (by simp)), ih (fun x hx => hc x (by simp [hx]))]
 rw [this _ h]
def LeafN (n : Nod) : Prop := ∀ a s (p : List Int) (c : Int), AroOk a → InlN n → tagC n.tag = 4 → KSt s → s.spot = 0 → 1 ≤ c →
  (leafF n p c = .inr (c - cellsN n) ∧ (cellsN n : Int) < c) ∨ (c ≤ cellsN n ∧ ∃ r k, leafF n p c = .inl (p ++ r, k) ∧ LeadK 0 n.kids r k ∧ told (nodeV n a (some (r, k)) s) = some (addB (baseV s) c) ∧ KSt (nodeV n a (some (r, k)) s))
def LeafK (ks : List Nod) : Prop := ∀ (j : Nat) a s (p : List Int) (c : Int), AroOk a → InlK ks → KSt s → s.spot = 0 → 1 ≤ c →
  (leafK ks j p c = .inr (c - cellsK ks) ∧ (cellsK ks : Int) < c) ∨ (c ≤ cellsK ks ∧ ∃ r k, leafK ks j p c = .inl (p ++ r, k) ∧ LeadK j ks r k ∧ (r = [] → (j : Int) < k) ∧ told (kidsV ks j a (some (r, k)) s) = some (addB (baseV s) c) ∧ KSt (kidsV ks j a (some (r, k)) s))
theorem leaf_nil : LeafK [] := by
 intro j a s p c _ _ _ _ hc
 left
 rw [leafK_nil, cellsK]
 exact ⟨by simp, by omega⟩
theorem leaf_cons (n : Nod) (ks : List Nod) (hn : LeafN n) (hks : LeafK ks) : LeafK (n :: ks) := by
 intro j a s p c ha hi h h0 hc
 rw [InlK] at hi
 obtain ⟨hi1, hi2⟩ := hi
 rw [cellsK]
 -- further on
 have later : ∀ (hlt : (cellsN n : Int) < c), (leafK ks (j + 1) p (c - cellsN n) = .inr (c - ((cellsN n + cellsK ks : Nat) : Int)) ∧ ((cellsN n + cellsK ks : Nat) : Int) < c) ∨
   (c ≤ ((cellsN n + cellsK ks : Nat) : Int) ∧ ∃ r k, leafK ks (j + 1) p (c - cellsN n) = .inl (p ++ r, k) ∧ LeadK j (n :: ks) r k ∧ (r = [] → (j : Int) < k) ∧ told (kidsV (n :: ks) j a (some (r, k)) s) = some (addB (baseV s) c) ∧ KSt (kidsV (n :: ks) j a (some (r, k)) s)) := by
  intro hlt
  obtain ⟨q1, q2, q3⟩ := told_node n a s ha h
  have hb := inl_base n a s ha hi1 h
  rcases hks (j + 1) a (nodeV n a none s) p (c - cellsN n) ha hi2 q2 (q3.2 h0) (by omega) with ⟨g1, g2⟩ | ⟨g1, r, k, g2, g3, g4, g5, g6⟩
  ·left
   rw [g1]
   exact ⟨by congr 1; omega, by omega⟩
  ·right
   refine ⟨by omega, r, k, g2, g3.cons n, fun e => by have := g4 e; omega, ?_⟩
   have e : kidsV (n :: ks) j a (some (r, k)) s = kidsV ks (j + 1) a (some (r, k)) (nodeV n a none s) := by
    rw [kidsV_cons]
    cases r with
    | nil =>
     show kidsV ks (j + 1) a _ (nodeV n a none (if k = (j : Int) then metV s else s)) = _
     rw [if_neg (by have := g4 rfl; omega)]
    | cons i q =>
     show kidsV ks (j + 1) a _ (if i = (j : Int) then nodeV n a (some (q, k)) s else nodeV n a none s) = _
     unfold LeadK at g3
     simp only at g3
     rw [if_neg (by omega)]
   rw [e]
   rw [hb, addB_add, show (cellsN n : Int) + (c - cellsN n) = c by omega] at g5
   exact ⟨g5, g6⟩
 obtain ⟨t, ats, x, kk⟩ := n
 unfold LeafN at hn
 simp only [Nod.tag] at hn
 have hi1' := hi1
 rw [InlN] at hi1'
 rw [leafK_mk]
 rcases hi1' with ⟨rfl, hcr⟩ | rfl | ⟨h4, hk⟩
 ·have hcells := cells_inl hcr ats kk
  rw [if_neg (show ¬ (0 : Int) = 16 by decide), if_neg (by simp)]
  by_cases hle : c ≤ ((runesB ⟨x.toArray⟩).length : Int)
  ·rw [if_pos hle]
   refine .inr ⟨by omega, [(j : Int)], c, rfl, ?_, (fun e => by cases e), ?_⟩
   ·unfold LeadK
    simp only [List.length_cons]
    have e0 : (j : Int).toNat - j = 0 := by omega
    rw [e0]
    refine ⟨by omega, by omega, by rw [reachN]; rfl, by omega, ?_⟩
    rw [reachN]
    exact .inl rfl
   ·rw [kidsV_cons]
    show told (kidsV ks (j + 1) a _ (if (j : Int) = (j : Int) then nodeV (.mk 0 ats x kk) a (some ([], c)) s else _)) = _ ∧ KSt (kidsV ks (j + 1) a _ (if (j : Int) = (j : Int) then nodeV (.mk 0 ats x kk) a (some ([], c)) s else _))
    rw [if_pos rfl, kids_past a ks (j + 1) (j : Int) [] c _ (by omega)]
    have en : nodeV (.mk 0 ats x kk) a (some ([], c)) s = textV a (runesB ⟨x.toArray⟩) (some ((c.toNat : Nat) : Int)) s := by
     rw [nodeV]
     simp only [if_pos (show tagC 0 = 1 by decide), normP_nil]
     rw [if_neg (by omega)]
     show textV a _ (some c) s = _
     rw [show ((c.toNat : Nat) : Int) = c by omega]
    obtain ⟨t1, t2⟩ := text_place a (runesB ⟨x.toArray⟩) c.toNat s hcr (by omega) h h0 (.inr (by omega))
    rw [← en] at t1 t2
    obtain ⟨k1, k2, _⟩ := told_kids a ha ks (j + 1) _ t2
    refine ⟨k1.trans (t1.trans ?_), k2⟩
    rw [show ((c.toNat : Nat) : Int) = c by omega]
  ·rw [if_neg hle]
   have := later (by rw [hcells]; omega)
   rw [hcells] at this ⊢
   exact this
 ·have hcells : cellsN (.mk 16 ats x kk) = 1 := by rw [cellsN, if_neg (by decide), if_pos (by decide)]
  rw [if_pos rfl]
  by_cases h1 : c = 1
  ·subst h1
   rw [if_pos rfl]
   refine .inr ⟨by omega, [], (j : Int) + 1, by simp, ?_, (fun _ => by omega), ?_⟩
   ·unfold LeadK
    simp only [List.length_cons]
    omega
   ·rw [kidsV_cons]
    show told (kidsV ks (j + 1) a _ (nodeV (.mk 16 ats x kk) a none (if ((j : Int) + 1) = (j : Int) then metV s else s))) = _ ∧ KSt (kidsV ks (j + 1) a _ (nodeV (.mk 16 ats x kk) a none (if ((j : Int) + 1) = (j : Int) then metV s else s)))
    rw [if_neg (by omega)]
    have en : nodeV (.mk 16 ats x kk) a none s = putV a 10 s := by
     rw [nodeV]
     simp only [if_neg (show ¬ tagC 16 = 1 by decide), if_pos (show tagC 16 = 5 by decide)]
     rfl
    rw [en]
    obtain ⟨p1, p2, p3⟩ := told_put a 10 h
    obtain ⟨b1, b2⟩ := put_base a 10 h
    have := kids_here a ha ks (j + 1) (putV a 10 s) p2 (p3.2 h0) b2
    rw [b1] at this
    rw [show (j : Int) + 1 = ((j + 1 : Nat) : Int) by omega]
    exact this
  ·rw [if_neg h1]
   have := later (by rw [hcells]; omega)
   rw [hcells] at this ⊢
   exact this
 ·obtain ⟨t0, t16, _⟩ := inl_tag h4
  rw [if_neg t16, if_pos t0]
  rcases hn a s (p ++ [(j : Int)]) c ha hi1 h4 h h0 hc with ⟨g1, g2⟩ | ⟨g1, r, k, g2, g3, g4, g5⟩
  ·rw [g1]
   exact later g2
  ·rw [g2]
   refine .inr ⟨by omega, (j : Int) :: r, k, by simp, ?_, (fun e => by cases e), ?_⟩
   ·unfold LeadK
    simp only [List.length_cons]
    have e0 : (j : Int).toNat - j = 0 := by omega
    rw [e0]
    have e1 : (Nod.mk t ats x kk :: ks).getD 0 default = .mk t ats x kk := rfl
    rw [e1]
    have hr : (reachN (.mk t ats x kk) r).1 = r.length ∧ 0 ≤ k ∧ ((reachN (.mk t ats x kk) r).2.tag = 0 ∨ k ≤ (reachN (.mk t ats x kk) r).2.kids.length) := by
     cases r with
     | nil =>
      unfold LeadK at g3
      simp only [Nod.kids] at g3
      rw [reachN]
      exact ⟨rfl, by omega, .inr (by simp only [Nod.kids]; omega)⟩
     | cons i q =>
      unfold LeadK at g3
      simp only [Nod.kids, Nat.sub_zero] at g3
      have has : asideT t = false := by
       obtain ⟨_, _, h1, h5, _, _⟩ := inl_tag h4
       unfold asideT; simp [h1, h5]
      rw [reach_cons, if_neg (by simp only [Nod.tag, Nod.kids, has]; simp; omega)]
      simp only [Nod.kids]
      exact ⟨by rw [g3.2.2.1]; rfl, g3.2.2.2.1, g3.2.2.2.2⟩
    exact ⟨by omega, by omega, hr.1, hr.2.1, hr.2.2⟩
   ·rw [kidsV_cons]
    show told (kidsV ks (j + 1) a _ (if (j : Int) = (j : Int) then nodeV (.mk t ats x kk) a (some (r, k)) s else _)) = _ ∧ KSt (kidsV ks (j + 1) a _ (if (j : Int) = (j : Int) then nodeV (.mk t ats x kk) a (some (r, k)) s else _))
    rw [if_pos rfl, kids_past a ks (j + 1) (j : Int) r k _ (by omega)]
    obtain ⟨k1, k2, _⟩ := told_kids a ha ks (j + 1) _ g5
    exact ⟨k1.trans g4, k2⟩
theorem leaf_node (t : Int) (ats : List Att) (x : List UInt8) (ks : List Nod) (ih : LeafK ks) : LeafN (.mk t ats x ks) := by
 intro a s p c ha hi h4 h h0 hc
 rw [InlN] at hi
 simp only [Nod.tag] at h4
 obtain ⟨t0, t16, h1, h5, h3, h2⟩ := inl_tag h4
 have hk : InlK ks := by
  rcases hi with hi | hi | hi
  ·exact absurd hi.1 t0
  ·exact absurd hi t16
  ·exact hi.2
 have has : asideT t = false := by unfold asideT; simp [h1, h5]
 rw [leafF_kids, cellsN, if_neg h1, if_neg h5]
 simp only [Nod.kids]
 rcases ih 0 (innerA (.mk t ats x ks) a) s p c (inner_ok _ ha) hk h h0 hc with g | ⟨g1, r, k, g2, g3, _, g4, g5⟩
 ·exact .inl g
 ·refine .inr ⟨g1, r, k, g2, g3, ?_⟩
  rw [node_shape ha h1 h5, if_neg h3, if_neg h2, lead_norm has g3]
  exact ⟨g4, g5⟩
theorem leaf_place (n : Nod) : LeafN n := Nod.rec (motive_1 := LeafN) (motive_2 := LeafK) leaf_node leaf_nil leaf_cons n
theorem leaf_kids : ∀ ks : List Nod, LeafK ks
 | [] => leaf_nil
 | n :: ks => leaf_cons n ks (leaf_place n) (leaf_kids ks)
mutual
def HosN : Nod → Prop | .mk t _ _ ks => (tagC t = 3 ∧ InlK ks) ∨ (tagC t = 2 ∧ HosK ks)
def HosK : List Nod → Prop | [] => True | k :: ks => HosN k ∧ HosK ks
end
mutual
def linesN : Nod → Nat | .mk t _ _ ks => if tagC t = 3 then 1 else linesK ks
def linesK : List Nod → Nat | [] => 0 | k :: ks => linesN k + linesK ks
end
theorem kids_base (a : Aro) (ha : AroOk a) : ∀ (ks : List Nod) (i : Nat) (s : VSt), InlK ks → KSt s → baseV (kidsV ks i a none s) = addB (baseV s) (cellsK ks)
 | [], i, s, _, _ => by rw [kidsV_nil, cellsK]; simp [addB_zero]
 | n :: ks, i, s, hi, h => by
  rw [InlK] at hi
  rw [kidsV_cons, cellsK]
  show baseV (kidsV ks (i + 1) a none (nodeV n a none s)) = _
  rw [kids_base a ha ks (i + 1) _ hi.2 (told_node n a s ha h).2.1, inl_base n a s ha hi.1 h, addB_add]
  congr 1
theorem line_len (t : Int) (ats : List Att) (x : List UInt8) (ks : List Nod) (a : Aro) (ha : AroOk a) (h3 : tagC t = 3) (hi : InlK ks) (p : Plc) (s : VSt) (h : KSt s) : (nodeV (.mk t ats x ks) a p s).lines.length = s.lines.length + 1 ∧ (nodeV (.mk t ats x ks) a p s).opn = false := by
 have hs := sim_node (.mk t ats x ks) a p none s s ha ⟨rfl, rfl, rfl⟩
 rw [hs.1, hs.2.2, node_shape ha (by omega) (by omega), if_pos h3]
 rw [show normP t ks.length none = none from rfl]
 have hb := kids_base (innerA (.mk t ats x ks) a) (inner_ok _ ha) ks 0 { s with opn := false } hi (told_close h).2.1
 unfold lineV
 simp only
 refine ⟨?_, trivial⟩
 generalize kidsV ks 0 (innerA (.mk t ats x ks) a) none { s with opn := false } = s2 at *
 have hb := congrArg Ps.line hb
 have e1 : (addB (baseV { s with opn := false }) (cellsK ks)).line = (s.lines.length : Int) := rfl
 rw [e1] at hb
 unfold baseV at hb
 by_cases h2 : s2.opn = true
 ·rw [if_pos h2] at hb
  simp only at hb
  rw [if_neg (by omega)]
  omega
 ·rw [if_neg h2] at hb
  simp only at hb
  rw [if_pos (by omega)]
  unfold beginV
  simp
  omega
theorem back_len (n : Nod) : ∀ a s, AroOk a → HosN n → KSt s → s.opn = false → (nodeV n a none s).lines.length = s.lines.length + linesN n ∧ (nodeV n a none s).opn = false := by
 refine Nod.rec (motive_1 := fun n => ∀ a s, AroOk a → HosN n → KSt s → s.opn = false → (nodeV n a none s).lines.length = s.lines.length + linesN n ∧ (nodeV n a none s).opn = false)
  (motive_2 := fun ks => ∀ i a s, AroOk a → HosK ks → KSt s → s.opn = false → (kidsV ks i a none s).lines.length = s.lines.length + linesK ks ∧ (kidsV ks i a none s).opn = false) ?_ ?_ ?_ n
 ·intro t ats x ks ih a s ha hn h ho
  rw [HosN] at hn
  rw [linesN]
  rcases hn with ⟨h3, hi⟩ | ⟨h2, hk⟩
  ·rw [if_pos h3]
   exact line_len t ats x ks a ha h3 hi none s h
  ·rw [if_neg (by omega), node_shape ha (by omega) (by omega), if_neg (by omega), if_pos h2]
   rw [show normP t ks.length none = none from rfl]
   have := ih 0 (innerA (.mk t ats x ks) a) { s with opn := false } (inner_ok _ ha) hk (told_close h).2.1 rfl
   exact ⟨this.1, rfl⟩
 ·intro i a s _ _ _ ho
  rw [kidsV_nil, linesK]
  exact ⟨rfl, ho⟩
 ·intro n ks hn hks i a s ha hk h ho
  rw [HosK] at hk
  rw [kidsV_cons, linesK]
  obtain ⟨h1, h2⟩ := hn a s ha hk.1 h ho
  obtain ⟨k1, k2⟩ := hks (i + 1) a (nodeV n a none s) ha hk.2 (told_node n a s ha h).2.1 h2
  exact ⟨by show (kidsV ks (i + 1) a none (nodeV n a none s)).lines.length = _; omega, k2⟩
def FndAt (j : Nat) (ks : List Nod) (a : Aro) (s : VSt) (i : Nat) (r : List Int) (nd : Nod) : Prop :=
 tagC nd.tag = 3 ∧ InlK nd.kids ∧ ∃ a' s', AroOk a' ∧ KSt s' ∧ s'.spot = 0 ∧ s'.opn = false ∧ s'.lines.length = s.lines.length + i ∧
  ∀ r2 k, LeadK 0 nd.kids r2 k → (∃ i0 q, r ++ r2 = i0 :: q ∧ (j : Int) ≤ i0) ∧ LeadK j ks (r ++ r2) k ∧ (KSt (nodeV nd a' (some (r2, k)) s') → told (kidsV ks j a (some (r ++ r2, k)) s) = told (nodeV nd a' (some (r2, k)) s') ∧ KSt (kidsV ks j a (some (r ++ r2, k)) s))
def FndK (ks : List Nod) : Prop := ∀ (j : Nat) a s (p : List Int) (i : Nat), AroOk a → HosK ks → KSt s → s.spot = 0 → s.opn = false →
  (findK ks j p i = .inr (i - linesK ks) ∧ linesK ks ≤ i) ∨ (i < linesK ks ∧ ∃ r nd, findK ks j p i = .inl (p ++ r, nd) ∧ FndAt j ks a s i r nd)
theorem lead_reach {t : Int} (has : asideT t = false) {ats : List Att} {x : List UInt8} {kk : List Nod} {r : List Int} {k : Int} (g3 : LeadK 0 kk r k) : (reachN (.mk t ats x kk) r).1 = r.length ∧ 0 ≤ k ∧ ((reachN (.mk t ats x kk) r).2.tag = 0 ∨ k ≤ (reachN (.mk t ats x kk) r).2.kids.length) := by
 cases r with
 | nil =>
  unfold LeadK at g3
  simp only at g3
  rw [reachN]
  exact ⟨rfl, by omega, .inr (by simp only [Nod.kids]; omega)⟩
 | cons i q =>
  unfold LeadK at g3
  simp only [Nat.sub_zero] at g3
  rw [reach_cons, if_neg (by simp only [Nod.tag, Nod.kids, has]; simp; omega)]
  simp only [Nod.kids]
  exact ⟨by rw [g3.2.2.1]; rfl, g3.2.2.2.1, g3.2.2.2.2⟩
theorem lead_head {j : Nat} {t : Int} (has : asideT t = false) {ats : List Att} {x : List UInt8} {kk ks : List Nod} {r : List Int} {k : Int} (g3 : LeadK 0 kk r k) : LeadK j (.mk t ats x kk :: ks) ((j : Int) :: r) k := by
 obtain ⟨h1, h2, h3⟩ := lead_reach (t := t) has (ats := ats) (x := x) g3
 unfold LeadK
 simp only [List.length_cons]
 have e0 : (j : Int).toNat - j = 0 := by omega
 rw [e0]
 have e1 : (Nod.mk t ats x kk :: ks).getD 0 default = .mk t ats x kk := rfl
 rw [e1]
 exact ⟨by omega, by omega, h1, h2, h3⟩
theorem kids_at (a : Aro) (n : Nod) (ks : List Nod) (j : Nat) (r : List Int) (k : Int) (s : VSt) : kidsV (n :: ks) j a (some ((j : Int) :: r, k)) s = kidsV ks (j + 1) a none (nodeV n a (some (r, k)) s) := by
 rw [kidsV_cons]
 show kidsV ks (j + 1) a _ (if (j : Int) = (j : Int) then nodeV n a (some (r, k)) s else _) = _
 rw [if_pos rfl, kids_past a ks (j + 1) (j : Int) r k _ (by omega)]
theorem kids_ahead (a : Aro) (n : Nod) (ks : List Nod) (j : Nat) (i0 : Int) (q : List Int) (k : Int) (s : VSt) (h : i0 ≠ (j : Int)) : kidsV (n :: ks) j a (some (i0 :: q, k)) s = kidsV ks (j + 1) a (some (i0 :: q, k)) (nodeV n a none s) := by
 rw [kidsV_cons]
 show kidsV ks (j + 1) a _ (if i0 = (j : Int) then nodeV n a (some (q, k)) s else _) = _
 rw [if_neg h]
theorem fnd_all : ∀ n : Nod, HosN n → tagC n.tag = 2 → FndK n.kids := by
 intro n
 refine Nod.rec (motive_1 := fun n => HosN n → tagC n.tag = 2 → FndK n.kids) (motive_2 := FndK) ?_ ?_ ?_ n
 ·intro t ats x ks ih _ _
  exact ih
 ·intro j a s p i _ _ _ _ _
  left
  rw [findK_nil, linesK]
  exact ⟨rfl, Nat.zero_le _⟩
 ·intro n ks hn hks j a s p i ha hk h h0 ho
  rw [HosK] at hk
  obtain ⟨hk1, hk2⟩ := hk
  rw [linesK]
  have later : ∀ (i' : Nat), i = linesN n + i' → (findK ks (j + 1) p i' = .inr (i - (linesN n + linesK ks)) ∧ linesN n + linesK ks ≤ i) ∨ (i < linesN n + linesK ks ∧ ∃ r nd, findK ks (j + 1) p i' = .inl (p ++ r, nd) ∧ FndAt j (n :: ks) a s i r nd) := by
   intro i' hi
   obtain ⟨q1, q2, q3⟩ := told_node n a s ha h
   obtain ⟨l1, l2⟩ := back_len n a s ha hk1 h ho
   rcases hks (j + 1) a (nodeV n a none s) p i' ha hk2 q2 (q3.2 h0) l2 with ⟨g1, g2⟩ | ⟨g1, r, nd, g2, g3, g4, a', s', f1, f2, f3, f4, f5, f6⟩
   ·left
    rw [g1]
    exact ⟨by congr 1; omega, by omega⟩
   ·right
    refine ⟨by omega, r, nd, g2, g3, g4, a', s', f1, f2, f3, f4, by omega, fun r2 k hl => ?_⟩
    obtain ⟨⟨i0, q, e, hi0⟩, x2, x3⟩ := f6 r2 k hl
    refine ⟨⟨i0, q, e, by omega⟩, x2.cons n, fun hkst => ?_⟩
    rw [e] at x3 ⊢
    rw [kids_ahead a n ks j i0 q k s (by omega)]
    exact x3 hkst
  obtain ⟨t, ats, x, kk⟩ := n
  rw [findK_mk]
  simp only [Nod.tag] at hn
  have hk1' := hk1
  rw [HosN] at hk1'
  rcases hk1' with ⟨h3, hi⟩ | ⟨h2, hkk⟩
  ·rw [if_pos h3]
   have hl : linesN (.mk t ats x kk) = 1 := by rw [linesN, if_pos h3]
   cases i with
   | zero =>
    right
    refine ⟨by omega, [(j : Int)], .mk t ats x kk, rfl, h3, hi, a, s, ha, h, h0, ho, by simp, fun r2 k hl2 => ?_⟩
    have has : asideT t = false := by unfold asideT; simp; omega
    refine ⟨⟨(j : Int), r2, rfl, by omega⟩, lead_head has hl2, fun hkst => ?_⟩
    show told (kidsV (.mk t ats x kk :: ks) j a (some ((j : Int) :: r2, k)) s) = _ ∧ KSt (kidsV (.mk t ats x kk :: ks) j a (some ((j : Int) :: r2, k)) s)
    rw [kids_at]
    obtain ⟨k1, k2, _⟩ := told_kids a ha ks (j + 1) _ hkst
    exact ⟨k1, k2⟩
   | succ i =>
    simp only
    have := later i (by omega)
    rw [hl] at this ⊢
    exact this
  ·rw [if_neg (by omega), findN_kids]
   simp only [Nod.kids]
   have hl : linesN (.mk t ats x kk) = linesK kk := by rw [linesN, if_neg (by omega)]
   have hkst0 := (told_close h).2.1
   rcases hn hk1 h2 0 (innerA (.mk t ats x kk) a) { s with opn := false } (p ++ [(j : Int)]) i (inner_ok _ ha) hkk hkst0 h0 rfl with ⟨g1, g2⟩ | ⟨g1, r, nd, g2, g3, g4, a', s', f1, f2, f3, f4, f5, f6⟩
   ·simp only [Nod.kids] at g1
    rw [g1]
    simp only [Nod.kids] at g2 ⊢
    exact later _ (by omega)
   ·simp only [Nod.kids] at g2 g1 f6
    rw [g2]
    right
    refine ⟨by omega, (j : Int) :: r, nd, by simp, g3, g4, a', s', f1, f2, f3, f4, f5, fun r2 k hl2 => ?_⟩
    obtain ⟨_, x2, x3⟩ := f6 r2 k hl2
    have has : asideT t = false := by unfold asideT; simp; omega
    refine ⟨⟨(j : Int), r ++ r2, rfl, by omega⟩, lead_head has x2, fun hkst => ?_⟩
    obtain ⟨y1, y2⟩ := x3 hkst
    show told (kidsV (.mk t ats x kk :: ks) j a (some ((j : Int) :: (r ++ r2), k)) s) = _ ∧ KSt (kidsV (.mk t ats x kk :: ks) j a (some ((j : Int) :: (r ++ r2), k)) s)
    rw [kids_at]
    have en : nodeV (.mk t ats x kk) a (some (r ++ r2, k)) s = boxV (kidsV kk 0 (innerA (.mk t ats x kk) a) (some (r ++ r2, k))) s := by
     rw [node_shape ha (by omega) (by omega), if_neg (by omega), if_pos h2, lead_norm has x2]
    rw [en]
    obtain ⟨c1, c2, _⟩ := told_close y2
    obtain ⟨k1, k2, _⟩ := told_kids a ha ks (j + 1) (boxV (kidsV kk 0 (innerA (.mk t ats x kk) a) (some (r ++ r2, k))) s) c2
    exact ⟨(k1.trans c1).trans y1, k2⟩
theorem line_begin {nd : Nod} (h3 : tagC nd.tag = 3) (a : Aro) (ha : AroOk a) (s : VSt) (h : KSt s) (h0 : s.spot = 0) : told (nodeV nd a (some ([], 0)) s) = some ⟨s.lines.length, 0⟩ ∧ KSt (nodeV nd a (some ([], 0)) s) := by
 obtain ⟨t, ats, x, ks⟩ := nd
 simp only [Nod.tag] at h3
 have hi := inner_ok (.mk t ats x ks) ha
 rw [node_shape ha (by omega) (by omega), if_pos h3, normP_nil]
 generalize innerA (.mk t ats x ks) a = a1 at *
 have em : metV { s with opn := false } = { s with opn := false, spot := 1 } := by unfold metV; rw [if_neg (by simp [h0])]; rfl
 have mk : KSt ({ s with opn := false, spot := 1 } : VSt) := ⟨(fun e => by cases e), fun _ => rfl⟩
 have hk : told (kidsV ks 0 a1 (some ([], 0)) { s with opn := false }) = some ⟨s.lines.length, 0⟩ ∧ KSt (kidsV ks 0 a1 (some ([], 0)) { s with opn := false }) := by
  cases ks with
  | nil =>
   rw [kidsV_nil]
   simp only
   rw [em]
   exact ⟨rfl, mk⟩
  | cons n ks =>
   rw [kidsV_cons]
   show told (kidsV ks 1 a1 _ (nodeV n a1 none (if (0 : Int) = ((0 : Nat) : Int) then metV { s with opn := false } else _))) = _ ∧ KSt (kidsV ks 1 a1 _ (nodeV n a1 none (if (0 : Int) = ((0 : Nat) : Int) then metV { s with opn := false } else _)))
   rw [if_pos (show (0 : Int) = ((0 : Nat) : Int) from rfl), em]
   obtain ⟨q1, q2, q3⟩ := told_node n a1 _ hi mk
   rw [kids_gone a1 hi ks 1 _ _ q2 (fun e => by have := q3.1 e; simp at this)]
   obtain ⟨t1, t2, _⟩ := told_kids a1 hi ks 1 _ q2
   exact ⟨(t1.trans q1).trans rfl, t2⟩
 rw [if_neg (show ¬ (0 : Int) < 0 by decide)]
 unfold lineV
 simp only
 generalize kidsV ks 0 a1 (some ([], 0)) { s with opn := false } = s2 at *
 split
 ·obtain ⟨b1, b2, _⟩ := told_begin a1 hk.2
  obtain ⟨c1, c2, _⟩ := told_close b2
  exact ⟨(c1.trans b1).trans hk.1, c2⟩
 ·obtain ⟨c1, c2, _⟩ := told_close hk.2
  exact ⟨c1.trans hk.1, c2⟩
theorem line_cell {nd : Nod} (h3 : tagC nd.tag = 3) (hi : InlK nd.kids) (a : Aro) (ha : AroOk a) (s : VSt) (h : KSt s) (h0 : s.spot = 0) (p : List Int) (c : Int) (hc : 1 ≤ c) :
  (leafF nd p c = .inr (c - cellsK nd.kids) ∧ (cellsK nd.kids : Int) < c) ∨ (c ≤ cellsK nd.kids ∧ ∃ r k, leafF nd p c = .inl (p ++ r, k) ∧ LeadK 0 nd.kids r k ∧ told (nodeV nd a (some (r, k)) s) = some ⟨s.lines.length, c⟩ ∧ KSt (nodeV nd a (some (r, k)) s)) := by
 obtain ⟨t, ats, x, ks⟩ := nd
 simp only [Nod.tag, Nod.kids] at h3 hi ⊢
 have hio := inner_ok (.mk t ats x ks) ha
 have has : asideT t = false := by unfold asideT; simp; omega
 rw [leafF_kids]
 simp only [Nod.kids]
 obtain ⟨c1, c2, c3⟩ := told_close h
 rcases leaf_kids ks 0 (innerA (.mk t ats x ks) a) { s with opn := false } p c hio hi c2 h0 hc with g | ⟨g1, r, k, g2, g3, _, g4, g5⟩
 ·exact .inl g
 ·refine .inr ⟨g1, r, k, g2, g3, ?_⟩
  rw [node_shape ha (by omega) (by omega), if_pos h3, lead_norm has g3]
  have eb : addB (baseV { s with opn := false }) c = ⟨s.lines.length, c⟩ := by unfold addB baseV; simp
  rw [eb] at g4
  unfold lineV
  simp only
  generalize kidsV ks 0 (innerA (.mk t ats x ks) a) (some (r, k)) { s with opn := false } = s2 at *
  split
  ·obtain ⟨b1, b2, _⟩ := told_begin (innerA (.mk t ats x ks) a) g5
   obtain ⟨d1, d2, _⟩ := told_close b2
   exact ⟨(d1.trans b1).trans g4, d2⟩
  ·obtain ⟨d1, d2, _⟩ := told_close g5
   exact ⟨d1.trans g4, d2⟩
theorem inl_list {ks : List Nod} (h : ∀ k ∈ ks, InlN k) : InlK ks := by
 induction ks with
 | nil => rw [InlK]; trivial
 | cons k ks ih => rw [InlK]; exact ⟨h k (by simp), ih fun x hx => h x (by simp [hx])⟩
theorem hos_list {ks : List Nod} (h : ∀ k ∈ ks, HosN k) : HosK ks := by
 induction ks with
 | nil => rw [HosK]; trivial
 | cons k ks ih => rw [HosK]; exact ⟨h k (by simp), ih fun x hx => h x (by simp [hx])⟩
theorem gr_inl : ∀ (ks : List (Cel → Option Wr)) (l : List Cel), (∀ k ∈ ks, ∀ c w, k c = some w → tagC w.1 = 4) → (∀ c ∈ l, CharOk c) → ∀ n ∈ gr ks l, InlN n
 | [], l, _, hc, n, hn => by
  unfold gr leavesN at hn
  obtain ⟨p, hp, rfl⟩ := List.mem_map.1 hn
  have hsub : ∀ x ∈ p, x ∈ l := fun x hx => parts_sub _ _ hp hx
  have hne := parts_ne textR _ l (Nat.le_refl _) p hp
  rcases part_text _ l (Nat.le_refl _) p hp with ⟨e, h10⟩ | h10
  ·unfold leafP
   rw [if_pos h10]
   unfold brN
   rw [InlN]
   exact .inr (.inl rfl)
  ·obtain ⟨e1, _⟩ := leafP_runes (fun x hx => hc x (hsub x hx)) h10 hne
   rw [e1]
   unfold txtN
   rw [InlN]
   refine .inl ⟨rfl, ?_⟩
   have hm : ∀ c ∈ p.map (·.r), mayR c = true := fun c hcc => by
    obtain ⟨x, hx, rfl⟩ := List.mem_map.1 hcc
    exact (hc x (hsub x hx)).resolve_right (h10 x hx)
   rw [runes_back _ hm]
   exact hm
 | k :: ks, l, hw, hc, n, hn => by
  rw [gr] at hn
  obtain ⟨p, hp, hn⟩ := List.mem_flatMap.1 hn
  have hsub : ∀ x ∈ p, x ∈ l := fun x hx => parts_sub _ _ hp hx
  have ih := gr_inl ks p (fun k' hk' => hw k' (by simp [hk'])) (fun c h => hc c (hsub c h))
  cases hk : k (p.headD default) with
  | none => rw [hk] at hn; exact ih n hn
  | some w =>
   rw [hk] at hn
   rw [show wrapO (some w) (gr ks p) = [Nod.mk w.1 w.2 [] (gr ks p)] from rfl, List.mem_singleton] at hn
   subst hn
   rw [InlN]
   exact .inr (.inr ⟨hw k (by simp) _ w hk, inl_list ih⟩)
theorem rowK_inl : ∀ k ∈ rowK, ∀ c w, k c = some w → tagC w.1 = 4 := by
 intro k hk c w h
 unfold rowK at hk
 simp only [List.mem_cons, List.not_mem_nil, or_false] at hk
 rcases hk with rfl | rfl | rfl | rfl | rfl
 ·unfold lvHref at h
  split at h
  ·cases h
  ·injection h with h; rw [← h]; exact (by decide : tagC 10 = 4)
 ·unfold lvBit at h
  split at h
  ·cases h
  ·injection h with h; rw [← h]; exact (by decide : tagC 11 = 4)
 ·unfold lvBit at h
  split at h
  ·cases h
  ·injection h with h; rw [← h]; exact (by decide : tagC 12 = 4)
 ·unfold lvBit at h
  split at h
  ·cases h
  ·injection h with h; rw [← h]; exact (by decide : tagC 13 = 4)
 ·unfold lvBit at h
  split at h
  ·cases h
  ·injection h with h; rw [← h]; exact (by decide : tagC 14 = 4)
theorem line_inl {l : Lin} (h : LinOk l) : tagC (lineN (gr rowK) l).tag = 3 ∧ InlK (lineN (gr rowK) l).kids :=
 ⟨(line_tag h).1, inl_list (gr_inl rowK l.cells rowK_inl fun c hc => (h.2.2.2.2.2.2.2 c hc).1)⟩
theorem hosts_hos : ∀ (n lv : Nat) (d : List Lin), (∀ l ∈ d, LinOk l) → ∀ k ∈ hostL (lineN (gr rowK)) n lv d, HosN k
 | 0, lv, d, h, k, hk => by
  rw [hostL] at hk
  obtain ⟨l, hl, rfl⟩ := List.mem_map.1 hk
  have := line_inl (h l hl)
  unfold lineN at this ⊢
  rw [HosN]
  exact .inl this
 | n + 1, lv, d, h, k, hk => by
  rw [hostL] at hk
  obtain ⟨p, hp, hk⟩ := List.mem_flatMap.1 hk
  have hsub : ∀ x ∈ p, x ∈ d := fun x hx => parts_sub _ _ hp hx
  have hne := parts_ne _ _ d (Nat.le_refl _) p hp
  have hhead : p.headD default ∈ p := by
   cases p with
   | nil => exact absurd rfl hne
   | cons a l => simp
  by_cases hs : stepL lv (p.headD default) ≠ 0
  ·rw [if_pos hs, List.mem_singleton] at hk
   subst hk
   rw [HosN]
   refine .inr ⟨?_, hos_list (hosts_hos n (lv + 1) p fun l hl => h l (hsub l hl))⟩
   have hw := way_at (h _ (hsub _ hhead)) (step_get hs)
   rcases hw with ⟨_, hw⟩ | ⟨_, hw | hw⟩ <;> rw [hw] <;> decide
  ·rw [if_neg hs, List.mem_singleton] at hk
   subst hk
   have := line_inl (h _ (hsub _ hhead))
   unfold lineN at this ⊢
   rw [HosN]
   exact .inl this
theorem point_back {d : List Lin} (hm : mayD d = true) {q : Ps} (hq : isD d q = true) :
  (reachN (hostN d) (pointN d q).1).1 = (pointN d q).1.length ∧ ((reachN (hostN d) (pointN d q).1).2.tag = 0 ∨ (pointN d q).2 ≤ (reachN (hostN d) (pointN d q).1).2.kids.length) ∧ posN (hostN d) (pointN d q) = (q, 0) ∧ 0 ≤ (pointN d q).2 := by
 obtain ⟨hne, hd⟩ := ok_of_may hm
 have hq' := hq
 unfold isD at hq'
 simp only [Bool.and_eq_true, decide_eq_true_eq] at hq'
 obtain ⟨⟨⟨h1, h2⟩, h3⟩, h4⟩ := hq'
 have hview := view_host hne hd
 have hlong : longV (goesV (hostN d) none) = false := by
  rw [hview]
  unfold mayD sizeD at hm
  simp only [Bool.and_eq_true, decide_eq_true_eq] at hm
  unfold longV
  simp
  omega
 have hos : HosK (hostL (lineN (gr rowK)) 13 0 d) := hos_list (hosts_hos 13 0 d hd)
 have hosN : HosN (hostN d) := by unfold hostN; rw [HosN]; exact .inr ⟨by decide, hos⟩
 have hk0 : KSt vst0 := ⟨(fun e => by cases e), fun _ => rfl⟩
 have hf := fnd_all (hostN d) hosN (show tagC 1 = 2 by decide) 0 (innerA (hostN d) aro0) { vst0 with opn := false } [] q.line.toNat (inner_ok _ aro0_ok) hos (told_close hk0).2.1 rfl rfl
 have hlt : q.line.toNat < d.length := by omega
 have hl : d[q.line.toNat]? = some (d.getD q.line.toNat default) := by
  rw [List.getD_eq_getElem?_getD, List.getElem?_eq_getElem hlt]
  rfl
 have hhost := host_line hd hl
 rw [findN_kids] at hhost
 rcases hf with ⟨g1, _⟩ | ⟨_, r, nd, g2, g3, g4, a', s', f1, f2, f3, f4, f5, f6⟩
 ·rw [hhost] at g1; cases g1
 ·rw [hhost] at g2
  rw [List.nil_append] at g2
  have hr : r = lastPath ((wayL (d.getD q.line.toNat default)).length + 1) 0 (hostL (lineN (gr rowK)) 13 0 (d.take (q.line.toNat + 1))) ∧ nd = lineN (gr rowK) (d.getD q.line.toNat default) := by
   injection g2 with g2
   injection g2 with g2 g5
   exact ⟨g2.symm, g5.symm⟩
  have hlen : s'.lines.length = q.line.toNat := by rw [f5]; simp [vst0]
  -- the place in the line
  obtain ⟨r2, k, hp, hlead, htold, hkst⟩ : ∃ r2 k, pointN d q = (r ++ r2, k) ∧ LeadK 0 nd.kids r2 k ∧ told (nodeV nd a' (some (r2, k)) s') = some q ∧ KSt (nodeV nd a' (some (r2, k)) s') := by
   unfold pointN
   rw [findN_kids, hhost]
   simp only
   rw [← hr.1, ← hr.2]
   have eq0 : ∀ c : Int, q.col = c → (⟨(s'.lines.length : Int), c⟩ : Ps) = q := fun c e => by
    rw [hlen, ← e]
    obtain ⟨ql, qc⟩ := q
    simp only at h1 ⊢
    rw [Int.toNat_of_nonneg h1]
   by_cases hz : q.col = 0
   ·rw [if_pos hz]
    obtain ⟨b1, b2⟩ := line_begin g3 a' f1 s' f2 f3
    refine ⟨[], 0, by simp, ?_, ?_, b2⟩
    ·unfold LeadK
     simp only
     omega
    ·rw [b1, eq0 0 hz]
   ·rw [if_neg hz]
    rcases line_cell g3 g4 a' f1 s' f2 f3 r q.col (by omega) with ⟨c1, c2⟩ | ⟨_, r2, k, c2, c3, c4, c5⟩
    ·exfalso
     have hcells : cellsK nd.kids = (d.getD q.line.toNat default).cells.length := by
      have hok := hd _ (List.mem_of_getElem? hl)
      have hrow := row_view (d.getD q.line.toNat default).cells aro0 vst0 hok.2.2.2.2.2.2.2 ⟨rfl, rfl⟩
      have hb := kids_base aro0 aro0_ok nd.kids 0 vst0 g4 hk0
      have hcn : ∀ (ks : List Nod) (i : Nat) (s : VSt), (kidsV ks i aro0 none s).cells = s.cells + cellsK ks := by
       intro ks
       induction ks with
       | nil => intro i s; rw [kidsV_nil, cellsK]; rfl
       | cons n ks ih =>
        intro i s
        rw [kidsV_cons, cellsK]
        show (kidsV ks (i + 1) aro0 none (nodeV n aro0 none s)).cells = _
        rw [ih, cells_node n aro0 s aro0_ok]
        omega
      have h5 := hcn nd.kids 0 vst0
      rw [kids_none, hr.2] at h5
      rw [show (lineN (gr rowK) (d.getD q.line.toNat default)).kids = gr rowK (d.getD q.line.toNat default).cells from rfl] at h5
      have h6 : (kidsN (gr rowK (d.getD q.line.toNat default).cells) aro0 vst0).cells = _ := h5
      rw [hrow] at h6
      have h7 : ∀ (l : List Cel) (s : VSt), (l.foldl (putC aro0) s).cells = s.cells + l.length := by
       intro l
       induction l with
       | nil => intro s; rfl
       | cons c l ih =>
        intro s
        rw [List.foldl_cons, ih]
        have : (putC aro0 s c).cells = s.cells + 1 := by
         unfold putC putV addV
         split <;> rfl
        rw [this]
        simp
        omega
      rw [h7] at h6
      rw [hr.2]
      rw [show (lineN (gr rowK) (d.getD q.line.toNat default)).kids = gr rowK (d.getD q.line.toNat default).cells from rfl]
      omega
     rw [hcells] at c2
     omega
    ·rw [c2]
     exact ⟨r2, k, rfl, c3, by rw [c4, eq0 q.col rfl], c5⟩
  obtain ⟨_, x2, x3⟩ := f6 r2 k hlead
  obtain ⟨y1, y2⟩ := x3 hkst
  have has : asideT 1 = false := by decide
  have hreach := lead_reach (t := 1) has (ats := []) (x := []) x2
  rw [hp]
  simp only
  have ehost : hostN d = .mk 1 [] [] (hostL (lineN (gr rowK)) 13 0 d) := rfl
  have ekids : (hostN d).kids = hostL (lineN (gr rowK)) 13 0 d := rfl
  rw [ekids] at y1 y2 x2 hreach
  refine ⟨hreach.1, hreach.2.2, ?_, hreach.2.1⟩
  have hn : nodeV (hostN d) aro0 (some (r ++ r2, k)) vst0 = boxV (kidsV (hostL (lineN (gr rowK)) 13 0 d) 0 (innerA (hostN d) aro0) (some (r ++ r2, k))) vst0 := by
   rw [ehost, node_shape aro0_ok (by decide) (by decide), if_neg (by decide), if_pos (by decide), lead_norm has x2]
  have hsim := goes_sim (hostN d) (some (r ++ r2, k))
  have hlines : (goesV (hostN d) (some (r ++ r2, k))).lines = d := by rw [hsim.1, hview]
  have hgoes : goesV (hostN d) (some (r ++ r2, k)) = nodeV (hostN d) aro0 (some (r ++ r2, k)) vst0 := by
   unfold goesV
   simp only
   have hs2 := sim_node (hostN d) aro0 (some (r ++ r2, k)) none vst0 vst0 aro0_ok ⟨rfl, rfl, rfl⟩
   rw [if_neg]
   rw [hs2.1]
   rw [node_host hd]
   exact hne
  have ht : told (nodeV (hostN d) aro0 (some (r ++ r2, k)) vst0) = some q := by
   rw [hn]
   exact (y1.trans htold)
  unfold posN
  simp only
  rw [if_neg (by rw [long_sim, hlong]; decide)]
  rw [hgoes]
  rw [hgoes] at hlines
  unfold told at ht
  split at ht
  ·cases ht
  ·split at ht
   ·exfalso
    injection ht with ht
    rw [hlines] at ht
    have := congrArg Ps.line ht
    simp only at this
    omega
   ·rename_i hs1
    rw [if_neg hs1]
    injection ht with ht
    rw [ht]
end Go.Proofs.Qw
namespace Go.Proofs.Qw
open Go.RowKit
theorem capMs_app (l m : List Nod) : capMs (l ++ m) = capMs l + capMs m := by
 induction l with
 | nil => simp [capMs]
 | cons k l ih => rw [List.cons_append, capMs, capMs, ih]; omega
theorem av_app {l m : List Nod} (h : AvK l) (k : AvK m) : AvK (l ++ m) := by
 induction l with
 | nil => exact k
 | cons x l ih => rw [AvK] at h; rw [List.cons_append, AvK]; exact ⟨h.1, ih h.2⟩
theorem capMs_flat {α : Type} {f : List α → List Nod} {g : α → Nat} : ∀ (ps : List (List α)), (∀ p ∈ ps, capMs (f p) ≤ (p.map g).sum) → capMs (ps.flatMap f) ≤ (ps.flatten.map g).sum
 | [], _ => by simp [capMs]
 | p :: ps, h => by
  rw [List.flatMap_cons, capMs_app, List.flatten_cons, List.map_append, List.sum_append]
  have h1 := h p (by simp)
  have h2 := capMs_flat ps fun q hq => h q (by simp [hq])
  omega
theorem av_flat {α : Type} {f : List α → List Nod} : ∀ (ps : List (List α)), (∀ p ∈ ps, AvK (f p)) → AvK (ps.flatMap f)
 | [], _ => by rw [List.flatMap_nil, AvK]; trivial
 | p :: ps, h => by rw [List.flatMap_cons]; exact av_app (h p (by simp)) (av_flat ps fun q hq => h q (by simp [hq]))
theorem av_one {n : Nod} (h : AvN n) : AvK [n] := by rw [AvK, AvK]; exact ⟨h, trivial⟩
theorem cap_one (n : Nod) : capMs [n] = capM n := by rw [capMs, capMs]; rfl
theorem sum_const {α : Type} (l : List α) (c : Nat) : (l.map fun _ => c).sum = c * l.length := by
 induction l with
 | nil => simp
 | cons x l ih => rw [List.map_cons, List.sum_cons, ih, List.length_cons, Nat.mul_add]; omega
theorem txt_len (l : List Int) : (txtL l).length ≤ 4 * l.length := by
 unfold txtL
 induction l with
 | nil => simp
 | cons c l ih =>
  have : (Lib.encodeRune c).length ≤ 4 := by
   unfold Lib.encodeRune
   rw [List.length_map]
   exact (Lib.encodeRuneZ_length c).2
  rw [List.flatMap_cons, List.length_append, List.length_cons]
  omega
theorem leaf_cap {p : List Cel} (h : p ≠ []) : capM (leafP p) ≤ 10 * p.length ∧ AvN (leafP p) := by
 have hp : 1 ≤ p.length := List.length_pos_iff.2 h
 unfold leafP
 split
 ·unfold brN
  rw [capM, AvN, capMs, AvK]
  exact ⟨by simp; omega, by simp, trivial⟩
 ·unfold txtN
  rw [capM, AvN, capMs, AvK]
  have := txt_len (p.map (·.r))
  rw [List.length_map] at this
  exact ⟨by omega, by simp, trivial⟩
theorem gr_cap : ∀ (ks : List (Cel → Option Wr)) (l : List Cel), (∀ k ∈ ks, ∀ c ∈ l, ∀ w, k c = some w → ∀ a ∈ w.2, a.value.length ≤ 100000) → capMs (gr ks l) ≤ (2 * ks.length + 10) * l.length ∧ AvK (gr ks l)
 | [], l, _ => by
  unfold gr leavesN
  have e : (partsBy textR l).map leafP = (partsBy textR l).flatMap fun p => [leafP p] := by
   generalize partsBy textR l = q
   induction q with
   | nil => rfl
   | cons x q ih => rw [List.map_cons, List.flatMap_cons, ih]; rfl
  rw [e]
  have hne := parts_ne textR _ l (Nat.le_refl _)
  refine ⟨?_, av_flat _ fun p hp => av_one (leaf_cap (hne p hp)).2⟩
  have := capMs_flat (g := fun _ : Cel => 10) (f := fun p => [leafP p]) (partsBy textR l) fun p hp => by rw [cap_one, sum_const]; exact (leaf_cap (hne p hp)).1
  rw [sum_const, parts_flat _ _ l (Nat.le_refl _)] at this
  simpa using this
 | k :: ks, l, hw => by
  rw [gr]
  have hne := parts_ne (fun a b => decide (k a = k b)) _ l (Nat.le_refl _)
  have hsub : ∀ p ∈ partsBy (fun a b => decide (k a = k b)) l, ∀ x ∈ p, x ∈ l := fun p hp x hx => parts_sub _ _ hp hx
  have ih := fun p hp => gr_cap ks p fun k' hk' c hc => hw k' (by simp [hk']) c (hsub p hp c hc)
  have hwr : ∀ p ∈ partsBy (fun a b => decide (k a = k b)) l, capMs (wrapO (k (p.headD default)) (gr ks p)) ≤ (2 * ks.length + 10) * p.length + 2 ∧ AvK (wrapO (k (p.headD default)) (gr ks p)) := fun p hp => by
   obtain ⟨h1, h2⟩ := ih p hp
   cases hk : k (p.headD default) with
   | none => exact ⟨by rw [show wrapO none (gr ks p) = gr ks p from rfl]; omega, h2⟩
   | some w =>
    rw [show wrapO (some w) (gr ks p) = [Nod.mk w.1 w.2 [] (gr ks p)] from rfl]
    have hm : p.headD default ∈ p := by
     cases p with
     | nil => exact absurd rfl (hne _ hp)
     | cons a l => simp
    refine ⟨by rw [cap_one, capM]; simp; omega, av_one ?_⟩
    rw [AvN]
    exact ⟨hw k (by simp) _ (hsub p hp _ hm) w hk, h2⟩
  refine ⟨?_, av_flat _ fun p hp => (hwr p hp).2⟩
  have := capMs_flat (g := fun _ : Cel => 2 * (k :: ks).length + 10) (f := fun p => wrapO (k (p.headD default)) (gr ks p)) (partsBy (fun a b => decide (k a = k b)) l) fun p hp => by
   rw [sum_const]
   have h1 := (hwr p hp).1
   have h2 : 1 ≤ p.length := List.length_pos_iff.2 (hne p hp)
   rw [List.length_cons]
   have e : (2 * (ks.length + 1) + 10) * p.length = (2 * ks.length + 10) * p.length + 2 * p.length := by
    have := Nat.add_mul (2 * ks.length + 10) 2 p.length
    rw [show 2 * (ks.length + 1) + 10 = 2 * ks.length + 10 + 2 by omega]
    exact this
   rw [e]
   omega
  rw [sum_const, parts_flat _ _ l (Nat.le_refl _)] at this
  exact this
theorem rowK_av {l : List Cel} (hl : ∀ c ∈ l, c.href.length ≤ 100000) : ∀ k ∈ rowK, ∀ c ∈ l, ∀ w, k c = some w → ∀ a ∈ w.2, a.value.length ≤ 100000 := by
 intro k hk c hc w h a ha
 unfold rowK at hk
 simp only [List.mem_cons, List.not_mem_nil, or_false] at hk
 rcases hk with rfl | rfl | rfl | rfl | rfl
 ·unfold lvHref at h
  split at h
  ·cases h
  ·injection h with h
   rw [← h] at ha
   simp [hrefA] at ha
   subst ha
   exact hl c hc
 all_goals
  unfold lvBit at h
  split at h
  ·cases h
  ·injection h with h
   rw [← h] at ha
   cases ha
theorem line_cap {l : Lin} (hl : ∀ c ∈ l.cells, c.href.length ≤ 100000) : capM (lineN (gr rowK) l) ≤ 2 + 20 * l.cells.length ∧ AvN (lineN (gr rowK) l) := by
 have h := gr_cap rowK l.cells (rowK_av hl)
 unfold lineN
 rw [capM, AvN]
 refine ⟨?_, by simp, h.2⟩
 have e : 2 * rowK.length + 10 = 20 := rfl
 rw [e] at h
 simp
 have := h.1
 omega
theorem hosts_cap : ∀ (n lv : Nat) (d : List Lin), (∀ l ∈ d, ∀ c ∈ l.cells, c.href.length ≤ 100000) → capMs (hostL (lineN (gr rowK)) n lv d) ≤ (d.map fun l => 2 * n + 2 + 20 * l.cells.length).sum ∧ AvK (hostL (lineN (gr rowK)) n lv d)
 | 0, lv, d, h => by
  rw [hostL]
  induction d with
  | nil => rw [List.map_nil, capMs, AvK]; exact ⟨by simp, trivial⟩
  | cons l d ih =>
   have h1 := line_cap (h l (by simp))
   have h2 := ih fun l hl => h l (by simp [hl])
   rw [List.map_cons, capMs, AvK, List.map_cons, List.sum_cons]
   exact ⟨by have := h1.1; have := h2.1; omega, h1.2, h2.2⟩
 | n + 1, lv, d, h => by
  rw [hostL]
  have hne := parts_ne (stepR lv) _ d (Nat.le_refl _)
  have hsub : ∀ p ∈ partsBy (stepR lv) d, ∀ x ∈ p, x ∈ d := fun p hp x hx => parts_sub _ _ hp hx
  have hp : ∀ p ∈ partsBy (stepR lv) d, capMs (if stepL lv (p.headD default) ≠ 0 then [.mk (stepL lv (p.headD default)) [] [] (hostL (lineN (gr rowK)) n (lv + 1) p)] else [lineN (gr rowK) (p.headD default)]) ≤ (p.map fun l => 2 * (n + 1) + 2 + 20 * l.cells.length).sum ∧
    AvK (if stepL lv (p.headD default) ≠ 0 then [.mk (stepL lv (p.headD default)) [] [] (hostL (lineN (gr rowK)) n (lv + 1) p)] else [lineN (gr rowK) (p.headD default)]) := fun p hp => by
   have ih := hosts_cap n (lv + 1) p fun l hl => h l (hsub p hp l hl)
   cases p with
   | nil => exact absurd rfl (hne _ hp)
   | cons x p =>
    have hx := line_cap (h x (hsub _ hp x (by simp)))
    split
    ·rw [cap_one, capM]
     refine ⟨?_, av_one (by rw [AvN]; exact ⟨by simp, ih.2⟩)⟩
     have h1 := ih.1
     have e : ∀ l : List Lin, (l.map fun l => 2 * n + 2 + 20 * l.cells.length).sum + 2 * l.length = (l.map fun l => 2 * (n + 1) + 2 + 20 * l.cells.length).sum := by
      intro l
      induction l with
      | nil => simp
      | cons y l ih => simp only [List.map_cons, List.sum_cons, List.length_cons]; omega
     have h2 := e (x :: p)
     simp only [List.length_nil, List.length_cons] at *
     omega
    ·rw [cap_one, List.headD_cons]
     refine ⟨?_, av_one hx.2⟩
     rw [List.map_cons, List.sum_cons]
     have := hx.1
     omega
  refine ⟨?_, av_flat _ fun p hp' => (hp p hp').2⟩
  have := capMs_flat (g := fun l : Lin => 2 * (n + 1) + 2 + 20 * l.cells.length) (f := fun p => if stepL lv (p.headD default) ≠ 0 then [.mk (stepL lv (p.headD default)) [] [] (hostL (lineN (gr rowK)) n (lv + 1) p)] else [lineN (gr rowK) (p.headD default)]) (partsBy (stepR lv) d) fun p hp' => (hp p hp').1
  rw [parts_flat _ _ d (Nat.le_refl _)] at this
  exact this
theorem host_cap {d : List Lin} (hm : mayD d = true) (hh : ∀ l ∈ d, ∀ c ∈ l.cells, c.href.length ≤ 100000) : capM (hostN d) ≤ 100000 ∧ AvN (hostN d) := by
 obtain ⟨h1, h2⟩ := hosts_cap 13 0 d hh
 unfold hostN
 rw [capM, AvN]
 refine ⟨?_, by simp, h2⟩
 unfold mayD at hm
 simp only [Bool.and_eq_true, decide_eq_true_eq] at hm
 obtain ⟨⟨⟨_, g2⟩, g3⟩, _⟩ := hm
 have e : ∀ l : List Lin, (l.map fun l => 2 * 13 + 2 + 20 * l.cells.length).sum = 28 * l.length + 20 * (l.map (·.cells.length)).sum := by
  intro l
  induction l with
  | nil => simp
  | cons y l ih => simp only [List.map_cons, List.sum_cons, List.length_cons]; omega
 have := e d
 unfold sizeD at g3
 simp only [List.length_nil]
 omega
end Go.Proofs.Qw
namespace Go.Proofs.Qw
open Go.RowKit
mutual
def AtF : Nod → Prop | .mk _ ats _ ks => ats.length ≤ 1 ∧ AtK ks
def AtK : List Nod → Prop | [] => True | k :: ks => AtF k ∧ AtK ks
end
theorem at_list {ks : List Nod} (h : ∀ k ∈ ks, AtF k) : AtK ks := by
 induction ks with
 | nil => rw [AtK]; trivial
 | cons k ks ih => rw [AtK]; exact ⟨h k (by simp), ih fun x hx => h x (by simp [hx])⟩
theorem fit_of (n : Nod) : AtF n → capM n ≤ 1000000 → FitN n := by
 refine Nod.rec (motive_1 := fun n => AtF n → capM n ≤ 1000000 → FitN n) (motive_2 := fun ks => AtK ks → capMs ks ≤ 1000000 → FitK ks ∧ ks.length ≤ capMs ks) ?_ ?_ ?_ n
 ·intro t ats x ks ih h hc
  rw [AtF] at h
  rw [capM] at hc
  obtain ⟨h1, h2⟩ := ih h.2 (by omega)
  rw [FitN]
  exact ⟨by omega, by omega, h1⟩
 ·intro _ _
  rw [FitK]
  exact ⟨trivial, by simp⟩
 ·intro k ks hk hks h hc
  rw [AtK] at h
  rw [capMs] at hc
  obtain ⟨h1, h2⟩ := hks h.2 (by omega)
  have h3 := cap_parts k
  rw [FitK, capMs, List.length_cons]
  exact ⟨⟨hk h.1 (by omega), h1⟩, by omega⟩
theorem leaf_at (p : List Cel) : AtF (leafP p) := by
 unfold leafP
 split
 ·unfold brN; rw [AtF, AtK]; simp
 ·unfold txtN; rw [AtF, AtK]; simp
theorem gr_at : ∀ (ks : List (Cel → Option Wr)) (l : List Cel), (∀ k ∈ ks, ∀ c w, k c = some w → w.2.length ≤ 1) → ∀ n ∈ gr ks l, AtF n
 | [], l, _, n, hn => by
  unfold gr leavesN at hn
  obtain ⟨p, _, rfl⟩ := List.mem_map.1 hn
  exact leaf_at p
 | k :: ks, l, hw, n, hn => by
  rw [gr] at hn
  obtain ⟨p, _, hn⟩ := List.mem_flatMap.1 hn
  have ih := gr_at ks p (fun k' hk' => hw k' (by simp [hk']))
  cases hk : k (p.headD default) with
  | none => rw [hk] at hn; exact ih n hn
  | some w =>
   rw [hk] at hn
   rw [show wrapO (some w) (gr ks p) = [Nod.mk w.1 w.2 [] (gr ks p)] from rfl, List.mem_singleton] at hn
   subst hn
   rw [AtF]
   exact ⟨hw k (by simp) _ w hk, at_list ih⟩
theorem rowK_at : ∀ k ∈ rowK, ∀ c w, k c = some w → w.2.length ≤ 1 := by
 intro k hk c w h
 unfold rowK at hk
 simp only [List.mem_cons, List.not_mem_nil, or_false] at hk
 rcases hk with rfl | rfl | rfl | rfl | rfl
 ·unfold lvHref at h
  split at h
  ·cases h
  ·injection h with h; rw [← h]; simp [hrefA]
 all_goals
  unfold lvBit at h
  split at h
  ·cases h
  ·injection h with h; rw [← h]; simp
theorem line_at (l : Lin) : AtF (lineN (gr rowK) l) := by
 unfold lineN
 rw [AtF]
 exact ⟨by simp, at_list (gr_at rowK l.cells rowK_at)⟩
theorem hosts_at : ∀ (n lv : Nat) (d : List Lin), ∀ k ∈ hostL (lineN (gr rowK)) n lv d, AtF k
 | 0, lv, d, k, hk => by
  rw [hostL] at hk
  obtain ⟨l, _, rfl⟩ := List.mem_map.1 hk
  exact line_at l
 | n + 1, lv, d, k, hk => by
  rw [hostL] at hk
  obtain ⟨p, _, hk⟩ := List.mem_flatMap.1 hk
  split at hk
  ·rw [List.mem_singleton] at hk
   subst hk
   rw [AtF]
   exact ⟨by simp, at_list (hosts_at n (lv + 1) p)⟩
  ·rw [List.mem_singleton] at hk
   subst hk
   exact line_at _
theorem hostF_fit {d : List Lin} (h : capM (hostN d) ≤ 100000) : FitN (hostN d) := by
 refine fit_of _ ?_ (by omega)
 unfold hostN
 rw [AtF]
 exact ⟨by simp, at_list (hosts_at 13 0 d)⟩
end Go.Proofs.Qw
namespace Go.Proofs.YtjpgffihafknlaaGreatDoor
open Go.RowKit
open Go.Proofs.Qw
set_option maxHeartbeats 400000 in
theorem words_any (s : ByteArray) (w : World) (he : Env w) (hs : s.size ≤ 100000) :
  Calls Tryz.prog 152 #[.string s] w fun e w' => e = .returned (.tuple #[.int .i64 (words s.data.toList).1, .bool (words s.data.toList).2]) ∧ Below w.heap.size w w' := by
 go_enter Tryz.func152, Tryz.ntmps152
 go_wp2_with (go_at_call 174; refine (Tryz.strings_Split_shaped s ⟨#[32]⟩ w he (by omega) (Nat.le_refl 1)).mono ?_; rintro e w' ⟨rfl, rfl⟩)
 have hlen := splitB_len 32 s
 have hc := countB_small 32 s
 have hW : words s.data.toList = wordsGo 0 false ((Lib.splitB ⟨#[32]⟩ 0 (Lib.countB s ⟨#[32]⟩) s).map (·.data.toList)) := by rw [splitB_one]; rfl
 generalize Lib.splitB ⟨#[32]⟩ 0 (Lib.countB s ⟨#[32]⟩) s = xs at *
 generalize Lib.countB s ⟨#[32]⟩ = n at *
 have HL := Lib.hid hlen
 have HW := Lib.hid hW
 clear hlen hW
 have HC : Hid (∀ k x, xs[k]? = some x → (w.alloc (Obj.cells (List.map Value.string xs).toArray 9)).cell? ⟨w.heap.size, k, none⟩ = some (.string x)) := Lib.hid fun k x hx => by
  rw [cell_new]; simp [hx]
 go_loop [4, 5, 11] (fun b s i => ∃ (k : Nat) (bb : Int) (ss : Bool), k ≤ n + 1 ∧ i = .int .i64 k ∧ b = .int .i64 bb ∧ s = .bool ss ∧ wordsGo 0 false (xs.map (·.data.toList)) = wordsGo bb ss ((xs.drop k).map (·.data.toList))) (fun _ _ i => n + 1 - (intOf i).toNat)
 case atStart => exact ⟨0, 0, false, by omega, rfl, rfl, rfl, rfl⟩
 case round =>
  obtain ⟨k, bb, ss, hk, rfl, rfl, rfl, hg⟩ := hrel
  have HG := Lib.hid hg
  clear hg
  by_cases hlt : k < n + 1
  ·obtain ⟨x, hx, hd⟩ := getOf xs k (by rw [HL.out]; exact hlt)
   have hx := HC.out k x hx
   have HD := Lib.hid hd
   clear hd
   go_wp2
   ·go_round
    case rel => exact ⟨k + 1, _, _, by omega, by go_num, rfl, rfl, by rw [HG.out, HD.out, List.map_cons, wordsGo1 (eq_of_beq ‹_›)]⟩
    case measure => simp [intOf]; omega
   ·go_round
    case rel => exact ⟨k + 1, _, _, by omega, by go_num, rfl, rfl, by rw [HG.out, HD.out, List.map_cons, wordsGo2 (ne_of_beq ‹(x.toList == [117, 110, 100, 101, 114, 108, 105, 110, 101]) = false›) (eq_of_beq ‹_›)]⟩
    case measure => simp [intOf]; omega
   ·go_round
    case rel => exact ⟨k + 1, _, _, by omega, by go_num, rfl, rfl, by rw [HG.out, HD.out, List.map_cons, wordsGo3 (ne_of_beq ‹(x.toList == [117, 110, 100, 101, 114, 108, 105, 110, 101]) = false›) (ne_of_beq ‹(x.toList == [108, 105, 110, 101, 45, 116, 104, 114, 111, 117, 103, 104]) = false›) (nil_of_empty ‹_›)]⟩
    case measure => simp [intOf]; omega
   ·go_ret2
    refine ⟨?_, (Below.refl _ _).alloc (Nat.le_refl _) _⟩
    rw [HW.out, HG.out, HD.out, List.map_cons, wordsGo4 (ne_of_beq ‹(x.toList == [117, 110, 100, 101, 114, 108, 105, 110, 101]) = false›) (ne_of_beq ‹(x.toList == [108, 105, 110, 101, 45, 116, 104, 114, 111, 117, 103, 104]) = false›) (ne_of_empty ‹_›)]
    rfl
  ·obtain rfl : k = n + 1 := by omega
   rw [List.drop_eq_nil_of_le (by rw [HL.out]; exact Nat.le_refl _)] at HG
   go_wp2
   go_ret2
   refine ⟨?_, (Below.refl _ _).alloc (Nat.le_refl _) _⟩
   rw [HW.out, HG.out]
   rfl
set_option maxHeartbeats 400000 in
theorem low_any (s : ByteArray) (w : World) (hs : s.size ≤ 100000) :
  Calls Tryz.prog 175 #[.string s] w fun e w' => e = .returned (.string ⟨(low s.data.toList).toArray⟩) ∧ Below w.heap.size w w' := by
 obtain ⟨c, w1, hcv, hb1, hz1, hr1, hc1⟩ := bytes_of w s
 have HR := Lib.hid hr1
 have HB := Lib.hid hb1
 have hl : s.data.toList.length = s.size := Array.length_toList
 have HS := Lib.hid hl
 clear hr1 hb1 hl
 generalize s.data.toList = l at *
 go_enter Tryz.func175, Tryz.ntmps175
 go_wp2_with fail
 clear hcv
 go_loopw [4, 5, 10] (fun _ _ i wr => ∃ k : Nat, k ≤ s.size ∧ i = .int .i64 k ∧ RowAt wr w.heap.size 0 (bv (low (l.take k) ++ l.drop k)) ∧ Below w.heap.size w wr) (fun _ _ i _ => s.size - (intOf i).toNat)
 case atStart => exact ⟨0, by omega, rfl, HR.out, HB.out⟩
 case round =>
  obtain ⟨k, hk, rfl, hr, hb⟩ := hrel
  by_cases hlt : k < s.size
  ·obtain ⟨b, hx, hd⟩ := getOf l k (by rw [HS.out]; exact hlt)
   have hp : (low (l.take k) ++ l.drop k)[k]? = some b := by
    rw [List.getElem?_append_right (by simp [low]; omega)]
    simp [low, hx, Nat.min_eq_left (show k ≤ l.length by rw [HS.out]; omega)]
   obtain ⟨hc, hf⟩ := hr k _ (bv_get hp)
   rw [Nat.zero_add] at hc hf
   have HX := Lib.hid hx
   have HP := Lib.hid hp
   clear hx hp hd
   go_wp2
   ·go_roundw
    case rel =>
     refine ⟨k + 1, by omega, by go_num, ?_, hb.setCell (Nat.le_refl _) _⟩
     rw [← low_step HX.out, ← bv_set, ← lowc_yes ‹_› ‹_›]
     have := hr.set (i := k) (by rw [bv_length]; exact (List.getElem?_eq_some_iff.1 HP.out).1) (.int .u8 ((b.toNat : Int) + 32))
     rwa [Nat.zero_add] at this
    case measure => simp [intOf]; omega
   ·go_roundw
    case rel => exact ⟨k + 1, by omega, by go_num, by rw [← low_keep HX.out (lowc_no (by omega))]; exact hr, hb⟩
    case measure => simp [intOf]; omega
   ·go_roundw
    case rel => exact ⟨k + 1, by omega, by go_num, by rw [← low_keep HX.out (lowc_no (by omega))]; exact hr, hb⟩
    case measure => simp [intOf]; omega
  ·obtain rfl : k = s.size := by omega
   have e : low (l.take s.size) ++ l.drop s.size = low l := by rw [List.take_of_length_le (by rw [HS.out]; exact Nat.le_refl _), List.drop_eq_nil_of_le (by rw [HS.out]; exact Nat.le_refl _), List.append_nil]
   rw [e] at hr
   have hst := string_of (c := c) hr
   rw [low_length, HS.out] at hst
   clear e
   go_wp2
   go_ret
   exact ⟨rfl, hb⟩
attribute [local go_sem] Oper.semAt_some
abbrev Decl := { x : List UInt8 × List UInt8 // x.1.length ≤ 100000 ∧ x.2.length ≤ 100000 }
abbrev declEnc (x : Decl) : Array Value := #[.string ⟨x.1.1.toArray⟩, .string ⟨x.1.2.toArray⟩]
set_option maxRecDepth 200000 in
set_option maxHeartbeats 4000000 in
theorem decl1_in (n l Bs base : Nat) (s : ByteArray) (hs : s.size ≤ 100000) (J Jx : List Decl → World → Prop) (w0 W : World) (he : Env w0) (hb0 : Below w0.heap.size w0 W) (hJ : AbidesFrom W.heap.size J) (hbase : base ≤ W.heap.size)
  (hY : ∀ (pre : List Decl) (x : Decl) W, J pre W → pre.length < 200000 → YieldAt Fence.wide (n - 1) Tryz.prog l (declEnc x) W fun e W' =>
   (e = .returned (.bool true) ∧ J (pre ++ [x]) W' ∧ Kp w0.heap.size base W W') ∨ (e = .returned (.bool false) ∧ Jx (pre ++ [x]) W'))
  (hBs : W.cell? ⟨Bs, 0, none⟩ = some (.string s)) (h0 : J [] W) :
  CallsIn Fence.wide n Tryz.prog 173 #[.func (.yield l) #[] #[], .pointer (some ⟨Bs, 0, none⟩)] W fun e W' => (∃ v, e = .returned v) ∧
   ((∃ ys : List Decl, ys.map (·.1) = decls s.data.toList ∧ J ys W') ∨ (∃ pre, True ∧ Jx pre W')) := by
 refine callsIn_of_wp Tryz.func173 rfl trivial ?_ rfl
 simp only [Tryz.ntmps173, List.size_toArray, List.length_cons, List.length_nil, Nat.reduceAdd, Nat.reduceSub, Array.replicate_succ, Array.replicate_zero, List.push_toArray, List.append_toArray, List.nil_append, List.cons_append]
 have hwf : ∀ f, Fence.wide.fn f := fun _ => trivial
 have hwd : Fence.wide.depth = none := rfl
 have heW := he.below hb0
 gi_wp2_with (gi_at_call 174; refine (callsIn_wide.2 (Tryz.strings_Split_shaped s ⟨#[59]⟩ W heW (by omega) (Nat.le_refl 1))).mono ?_; rintro e w' ⟨rfl, rfl⟩)
 have hlen := splitB_len 59 s
 have hc := countB_small 59 s
 have hW : decls s.data.toList = ((Lib.splitB ⟨#[59]⟩ 0 (Lib.countB s ⟨#[59]⟩) s).map (·.data.toList)).filterMap declOf := by rw [splitB_one]; rfl
 have hle : ∀ (k : Nat) (x : ByteArray), (Lib.splitB ⟨#[59]⟩ 0 (Lib.countB s ⟨#[59]⟩) s)[k]? = some x → x.size ≤ 100000 := fun k x hx => by
  have h1 : x.data.toList ∈ splitL 59 s.data.toList := by
   rw [← splitB_one]
   exact List.mem_map.2 ⟨x, List.mem_of_getElem? hx, rfl⟩
  have := splitL_le _ _ _ h1
  simp only [Array.length_toList] at this
  exact Nat.le_trans this hs
 generalize Lib.splitB ⟨#[59]⟩ 0 (Lib.countB s ⟨#[59]⟩) s = xs at *
 generalize Lib.countB s ⟨#[59]⟩ = m at *
 have HL := Lib.hid hlen
 have HW := Lib.hid hW
 have HE := Lib.hid hle
 clear hlen hW hle
 have HB : Hid (Below W.heap.size W (W.alloc (Obj.cells (List.map Value.string xs).toArray 9))) := Lib.hid ((Below.refl _ _).alloc (Nat.le_refl _) _)
 have HC : Hid ((W.alloc (Obj.cells (List.map Value.string xs).toArray 9)).heap[W.heap.size]? = some (Obj.cells (List.map Value.string xs).toArray 9)) := Lib.hid (World.alloc_heap_new _ _)
 have HJ0 : Hid (J [] (W.alloc (Obj.cells (List.map Value.string xs).toArray 9))) := Lib.hid (abides_below hJ h0 HB.out)
 have HJA := Lib.hid hJ
 clear hJ h0 heW hBs
 generalize W.alloc (Obj.cells (List.map Value.string xs).toArray 9) = W1 at *
 gi_loopw [11] (fun i wr => ∃ (k : Nat) (pre : List Decl), k ≤ m + 1 ∧ pre.length ≤ k ∧ i = .int .i64 k ∧ pre.map (·.1) = ((xs.take k).map (·.data.toList)).filterMap declOf ∧ J pre wr ∧ Below w0.heap.size w0 wr ∧ W.heap.size < wr.heap.size ∧ wr.heap[W.heap.size]? = some (Obj.cells (List.map Value.string xs).toArray 9))
  (fun i _ => m + 1 - (intOf i).toNat)
 case atStart => exact ⟨0, [], by omega, Nat.le_refl _, rfl, rfl, HJ0.out, hb0.trans (HB.out.mono hb0.size), (Array.getElem?_eq_some_iff.1 HC.out).1, HC.out⟩
 case round =>
  obtain ⟨k, pre, hk, hpl, rfl, hpre, hJs, hb1, hz1, hh1⟩ := hrel
  have HP := Lib.hid hpre
  have HH := Lib.hid hh1
  clear hpre hh1
  by_cases hlt : k < m + 1
  ·obtain ⟨x, hx, hd⟩ := getOf xs k (by rw [HL.out]; exact hlt)
   have hxc : wr.cell? ⟨W.heap.size, k, none⟩ = some (.string x) := by rw [cell_of_heap HH.out]; simp [hx]
   have hxs := HE.out k x hx
   have HX := Lib.hid hx
   clear hd hx
   have her := he.below hb1
   gi_wp2_with fail
   refine (callsIn_wide.2 (Tryz.strings_Cut_shaped x ⟨#[58]⟩ wr her (by omega))).mono ?_
   rintro e w' ⟨rfl, nd, rfl⟩
   have hwb : Below wr.heap.size wr (wr.drewN nd) := ⟨rfl, rfl, rfl, Nat.le_refl _, fun _ _ => rfl⟩
   have hD : declOf x.data.toList = if (Lib.cut x.data.toList [58]).2.2 = true then some (low (Lib.trimB (Lib.cut x.data.toList [58]).1 32), low (Lib.trimB (Lib.cut x.data.toList [58]).2.1 32)) else none := rfl
   have hcl : (Lib.cut x.data.toList [58]).1.length ≤ 100000 ∧ (Lib.cut x.data.toList [58]).2.1.length ≤ 100000 := by
    have := cut_le x.data.toList
    have h2 : x.data.toList.length = x.size := Array.length_toList
    omega
   generalize wr.drewN nd = w2 at *
   generalize Lib.cut x.data.toList [58] = ct at *
   obtain ⟨nm, vl, ok⟩ := ct
   have HD := Lib.hid hD
   have HWB := Lib.hid hwb
   clear hD hwb
   have HW2 : Hid (Below w0.heap.size w0 w2) := Lib.hid (below_from hb1 HWB.out)
   have hJ2 := abides_below (X := wr) (Y := w2) HJA.out hJs HWB.out
   have hh2 : Hid (w2.heap[W.heap.size]? = some (Obj.cells (List.map Value.string xs).toArray 9)) := Lib.hid ((HWB.out.block _ hz1).trans HH.out)
   have hz2 : W.heap.size < w2.heap.size := Nat.lt_of_lt_of_le hz1 HWB.out.size
   cases ok
   ·gi_wp2_with fail
    go_roundw
    case rel => exact ⟨k + 1, pre, by omega, by omega, by go_num, by rw [fm_none HX.out (HD.out.trans (if_neg (by simp)))]; exact HP.out, hJ2, HW2.out, hz2, hh2.out⟩
    case measure => simp [intOf]; omega
   ·gi_wp2_with fail
    refine (callsIn_wide.2 (Tryz.strings_Trim_one ⟨nm.toArray⟩ 32 (by decide) w2 (by simp [ByteArray.size]; omega))).mono ?_
    rintro e w3 ⟨rfl, h3⟩
    have hb3 := Lib.hid (below_or h3)
    clear h3
    gi_wp2_with fail
    refine (callsIn_wide.2 (low_any ⟨(Lib.trimB nm 32).toArray⟩ w3 ?hs3)).mono ?_
    case hs3 => have := trimB_le nm 32; simp [ByteArray.size]; omega
    rintro e w4 ⟨rfl, hb4⟩
    have HB4 := Lib.hid hb4
    clear hb4
    gi_wp2_with fail
    refine (callsIn_wide.2 (Tryz.strings_Trim_one ⟨vl.toArray⟩ 32 (by decide) w4 (by simp [ByteArray.size]; omega))).mono ?_
    rintro e w5 ⟨rfl, h5⟩
    have hb5 := Lib.hid (below_or h5)
    clear h5
    gi_wp2_with fail
    refine (callsIn_wide.2 (low_any ⟨(Lib.trimB vl 32).toArray⟩ w5 ?hs5)).mono ?_
    case hs5 => have := trimB_le vl 32; simp [ByteArray.size]; omega
    rintro e w6 ⟨rfl, hb6⟩
    have HB6 := Lib.hid hb6
    clear hb6
    have hb26 : Hid (Below w2.heap.size w2 w6) := Lib.hid (below_from hb3.out (below_from HB4.out (below_from hb5.out HB6.out)))
    have HW6 : Hid (Below w0.heap.size w0 w6) := Lib.hid (below_from HW2.out hb26.out)
    have hJ6 := abides_below HJA.out hJ2 hb26.out
    have hh6 : Hid (w6.heap[W.heap.size]? = some (Obj.cells (List.map Value.string xs).toArray 9)) := Lib.hid ((hb26.out.block _ hz2).trans hh2.out)
    have hz6 : W.heap.size < w6.heap.size := Nat.lt_of_lt_of_le hz2 hb26.out.size
    obtain ⟨fn, tmps, assign, body, hy, hR⟩ := hY pre ⟨(low (Lib.trimB nm 32), low (Lib.trimB vl 32)), by have := trimB_le vl 32; have := trimB_le nm 32; rw [low_length, low_length]; omega⟩ w6 hJ6 (by omega)
    dsimp only [declEnc] at hy
    gi_wp2_with fail
    refine hR.mono ?_
    rintro e w7 (⟨rfl, hJ7, hk7⟩ | ⟨rfl, hJx7⟩)
    ·gi_wp2_with fail
     go_roundw
     case rel => exact ⟨k + 1, _, by omega, by simp; omega, by go_num, by rw [fm_some HX.out (HD.out.trans (if_pos trivial)), List.map_append, HP.out]; rfl, hJ7, HW6.out.trans hk7.below, Nat.lt_of_lt_of_le hz6 hk7.below.size, hk7.cells _ _ hbase hh6.out rfl⟩
     case measure => simp [intOf]; omega
    ·gi_wp2_with fail
     refine bodyPost_ret (results_none rfl _ _ _) rfl ?_
     exact ⟨⟨_, rfl⟩, .inr ⟨_, trivial, hJx7⟩⟩
  ·obtain rfl : k = m + 1 := by omega
   gi_wp2
   go_end0
   exact ⟨⟨_, rfl⟩, .inl ⟨pre, by rw [HP.out, HW.out, List.take_of_length_le (by rw [HL.out]; exact Nat.le_refl _)], hJs⟩⟩
end Go.Proofs.YtjpgffihafknlaaGreatDoor
