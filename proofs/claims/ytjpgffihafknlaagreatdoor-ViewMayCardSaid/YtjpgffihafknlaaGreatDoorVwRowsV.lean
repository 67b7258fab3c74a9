/- The walks of view.goes, View, Pos. -/
import Derived.Test.YtjpgffihafknlaaGreatDoorVwNodeV
import Derived.Test.YtjpgffihafknlaaGreatDoorRefViewV
import Derived.Test.YtjpgffihafknlaaGreatDoorTagClassV
import Derived.Test.YtjpgffihafknlaaGreatDoorVwWithV
import Derived.Test.YtjpgffihafknlaaGreatDoorOpenPntV
import Derived.Test.YtjpgffihafknlaaGreatDoorShelf
import Derived.Test.YtjpgffihafknlaaGreatDoorVwClosV
set_option linter.unusedVariables false
set_option linter.unusedSimpArgs false
namespace Go.Proofs.YtjpgffihafknlaaGreatDoor
open Go.RowKit
open Go.Proofs.Qw
attribute [local go_sem] Oper.semAt_some
def AskR (w0 w : World) (S : Nat → Prop) (pv : Value) (p : Plc) : Prop :=
 (p = none ∧ pv = .pointer none) ∨ ∃ path k b v, p = some (path, k) ∧ pv = .pointer (some ⟨b, 0, none⟩) ∧ b < w.heap.size ∧ w.heap[b]? = some (.cells #[v, .int .i64 k] 44) ∧ IntsR false w0 S v path
def GoesSaid (s : VSt) (w : World) (e : Ending) (w' : World) : Prop :=
 ((longV s = true ∧ e = .returned (.tuple #[.pointer none, .int .i64 10])) ∨ (longV s = false ∧ ∃ B a lv, e = .returned (.tuple #[.pointer (some ⟨B, 0, none⟩), .int .i64 0]) ∧ VwR B w' a lv s ∧ w.heap.size ≤ B)) ∧ Below w.heap.size w w'
theorem VwR.zero {B : Nat} {w : World} {s : VSt} (h : VwR B w aro0 (.slice none 0 0) s) :
  VwR B ((((((w.setCell ⟨B, 0, none⟩ (.int .i64 0)).setCell ⟨B, 1, none⟩ (.slice none 0 0)).setCell ⟨B, 2, none⟩ (.int .i64 0)).setCell ⟨B, 3, none⟩ (.slice none 0 0)).setCell ⟨B, 4, none⟩ (.int .i64 0)).setCell ⟨B, 5, none⟩ (.string ⟨#[]⟩)) aro0 (.slice none 0 0) s ∧
  SetB B w ((((((w.setCell ⟨B, 0, none⟩ (.int .i64 0)).setCell ⟨B, 1, none⟩ (.slice none 0 0)).setCell ⟨B, 2, none⟩ (.int .i64 0)).setCell ⟨B, 3, none⟩ (.slice none 0 0)).setCell ⟨B, 4, none⟩ (.int .i64 0)).setCell ⟨B, 5, none⟩ (.string ⟨#[]⟩)) := by
 have hS := (((((SetB.one B w 0 (.int .i64 0)).trans (SetB.one B _ 1 (.slice none 0 0))).trans (SetB.one B _ 2 (.int .i64 0))).trans (SetB.one B _ 3 (.slice none 0 0))).trans (SetB.one B _ 4 (.int .i64 0))).trans (SetB.one B _ 5 (.string ⟨#[]⟩))
 obtain ⟨lns, xs, hB, hI, hL, hx⟩ := h
 exact ⟨VwR.turn hL hS.blk (Nat.le_of_eq hS.size.symm) (setCell_heap (setCell_heap (setCell_heap (setCell_heap (setCell_heap (setCell_heap hB _) _) _) _) _) _) hI hx, hS⟩
theorem zero_walk (w : World) (n : Nod) (na nk : Value) : ∃ W1, (w.alloc (.cells #[.int .i64 n.tag, na, .string ⟨n.text.toArray⟩, nk] 25)).alloc (.cells #[.int .i64 0, .slice none 0 0, .int .i64 0, .slice none 0 0, .int .i64 0, .string ⟨#[]⟩, .slice none 0 0, .int .i64 0, .bool false, .int .i64 0, .int .i64 0, .int .i64 0] 74) = W1 ∧ Below w.heap.size w W1 ∧ W1.heap[w.heap.size]? = some (.cells #[.int .i64 n.tag, na, .string ⟨n.text.toArray⟩, nk] 25) ∧ VwR (w.heap.size + 1) W1 aro0 (.slice none 0 0) vst0 :=
 ⟨_, rfl, ((Below.refl _ _).alloc (Nat.le_refl _) _).alloc (by simp) _, heap_old _ _ (heap_new _ _ rfl), ⟨.slice none 0 0, [], heap_new _ _ (by simp), SliceR.nil _ _ _ _ _ _, LnsR.nil _ _, rfl⟩⟩
set_option maxRecDepth 100000 in
set_option maxHeartbeats 4000000 in
theorem goes_any (HCs : CssP) (h : Nat) (n : Nod) (na nk pv : Value) (p : Plc) (w w0 : World) (S S' : Nat → Prop) (hA : AttsR false w0 S na n.attrs) (hK : NodsR false h w0 S nk n.kids) (he : EnvT w0) (h0 : Below w0.heap.size w0 w) (hav : AvN n) (hc : capM n ≤ 3900000) (hp : AskR w0 w S' pv p) :
  Calls Tryz.prog 39 #[nodV n na nk, pv] w (GoesSaid (goesV n p) w) := by
 obtain ⟨la, lc, rfl⟩ := hA.slice
 obtain ⟨ka, kc, rfl⟩ := hK.slice
 obtain ⟨W1, hW1, hB, z1, hV⟩ := zero_walk w n (.slice la n.attrs.length lc) (.slice ka n.kids.length kc)
 obtain ⟨sn, hsn⟩ : ∃ s, nodeV n aro0 p vst0 = s := ⟨_, rfl⟩
 have hcs := cap_all n aro0 p vst0
 rw [hsn] at hcs
 have hcz : capV vst0 = 0 := rfl
 have HGo : Hid (goesV n p = if sn.lines = [] then beginV aro0 sn else sn) := Lib.hid (by unfold goesV; rw [hsn])
 have HNd : Hid (Calls Tryz.prog 63 #[.pointer (some ⟨w.heap.size + 1, 0, none⟩), .agg #[.int .i64 n.tag, .slice la n.attrs.length lc, .string ⟨n.text.toArray⟩, .slice ka n.kids.length kc], pv] W1 fun e w' => (∃ u, e = .returned u) ∧ VwR (w.heap.size + 1) w' aro0 (.slice none 0 0) sn ∧ KeepT (w.heap.size + 1) W1 w') := Lib.hid (by
  rw [← hsn]
  refine view_all HCs h n _ _ pv p (w.heap.size + 1) aro0 _ vst0 W1 w0 S S' hA hK he (below_from h0 hB) (Nat.le_trans h0.size (Nat.le_succ _)) hV ⟨by decide, by decide, by decide⟩ ⟨(fun e => by cases e), rfl⟩ hav (by rw [hcz]; omega) ?_
  rcases hp with hp | ⟨path, k, b, v, h1, h2, h3, h4, h5⟩
  ·exact .inl hp
  ·exact .inr ⟨path, k, b, v, h1, h2, by omega, heap_below hB h4, h5⟩)
 obtain ⟨pa, rfl⟩ : ∃ pa, pv = .pointer pa := by rcases hp with ⟨_, h⟩ | ⟨_, _, _, _, _, h, _⟩ <;> exact ⟨_, h⟩
 have HW1 := Lib.hid hW1
 have HB := Lib.hid hB
 have HCn : Hid (capV sn ≤ 3900000) := Lib.hid (by omega)
 obtain ⟨q1, g1⟩ := blk z1
 rw [← hW1] at q1 g1
 have HZ := Lib.hid hV.lt
 clear hA hK he h0 hav hc hp hW1 hB hV z1 hsn hcs hcz
 unfold nodV
 go_enter Tryz.func39, Tryz.ntmps39
 go_upto_region 3 with (go_at_call 63; rw [HW1.out]; refine HNd.out.mono ?_; rintro e w2 ⟨⟨u, rfl⟩, hv2, hk2⟩)
 have hb2 : Below w.heap.size w w2 := HB.out.trans ((hk2.below HZ.out).mono (Nat.le_succ _))
 obtain ⟨la2, lc2, na2, nc2, hlv2, hB2⟩ := hv2.open
 have HV2 := Lib.hid hv2
 have HB2 := Lib.hid hb2
 obtain ⟨p2, f2⟩ := blk hB2
 clear hk2 hv2 hb2 q1 g1 hB2 hlv2
 by_cases hl : sn.lines = []
 ·have hl0 : sn.lines.length = 0 := by rw [hl]; rfl
  have HE : Hid (goesV n p = beginV aro0 sn) := Lib.hid (by rw [HGo.out, if_pos hl])
  have hz := VwR.zero HV2.out
  have HBg := Lib.hid (begin_any (w.heap.size + 1) aro0 (.slice none 0 0) sn _ hz.1 (by omega) (by decide))
  have HZz := Lib.hid hz.2
  rw [← HE.out] at HBg
  clear hz hl HE HGo
  generalize goesV n p = sg at *
  go_upto_region 6 with (go_at_call 64; refine HBg.out.mono ?_; rintro e w5 ⟨⟨u, rfl⟩, hv3, hk5⟩)
  have hb3 := HB2.out.trans (((HZz.out.keep.trans hk5).below HV2.out.lt).mono (Nat.le_succ _))
  clear p2 f2 HV2 HB2 hk5 hl0
  obtain ⟨la3, lc3, na3, nc3, hlv3, hB3⟩ := hv3.open
  obtain ⟨p3, f3⟩ := blk hB3
  have HV3 := Lib.hid hv3
  have HB3 := Lib.hid hb3
  have HL : Hid (longV sg = (decide (200 < sg.lines.length) || decide (4000 < sg.cells))) := Lib.hid rfl
  clear hv3 hB3 hb3 hlv3
  have hcs : (200 < sg.lines.length) ∨ (¬ 200 < sg.lines.length ∧ 4000 < sg.cells) ∨ (¬ 200 < sg.lines.length ∧ ¬ 4000 < sg.cells) := by omega
  rcases hcs with h1 | ⟨h1, h2⟩ | ⟨h1, h2⟩
  ·have h1d : decide ((200 : Int) < (sg.lines.length : Int)) = true := decide_eq_true (by omega)
   have h1e : decide (200 < sg.lines.length) = true := decide_eq_true h1
   have HE : Hid (longV sg = true) := Lib.hid (by rw [HL.out, h1e]; rfl)
   clear h1
   go_wp2_with fail
   go_ret2
   exact ⟨.inl ⟨HE.out, rfl⟩, HB3.out⟩
  ·have h1d : decide ((200 : Int) < (sg.lines.length : Int)) = false := decide_eq_false (by omega)
   have h1e : decide (200 < sg.lines.length) = false := decide_eq_false h1
   have h2d : decide ((4000 : Int) < (sg.cells : Int)) = true := decide_eq_true (by omega)
   have h2e : decide (4000 < sg.cells) = true := decide_eq_true h2
   have HE : Hid (longV sg = true) := Lib.hid (by rw [HL.out, h1e, h2e]; rfl)
   clear h1 h2
   go_wp2_with fail
   go_ret2
   exact ⟨.inl ⟨HE.out, rfl⟩, HB3.out⟩
  ·have h1d : decide ((200 : Int) < (sg.lines.length : Int)) = false := decide_eq_false (by omega)
   have h1e : decide (200 < sg.lines.length) = false := decide_eq_false h1
   have h2d : decide ((4000 : Int) < (sg.cells : Int)) = false := decide_eq_false (by omega)
   have h2e : decide (4000 < sg.cells) = false := decide_eq_false h2
   have HE : Hid (longV sg = false) := Lib.hid (by rw [HL.out, h1e, h2e]; rfl)
   clear h1 h2
   go_wp2_with fail
   go_ret2
   exact ⟨.inr ⟨HE.out, _, _, _, rfl, HV3.out, Nat.le_succ _⟩, HB3.out⟩
 ·have hl0 : ((sn.lines.length : Int) == 0) = false := beq_eq_false_iff_ne.2 (by have := List.length_pos_iff.2 hl; omega)
  have hl1 : 0 < sn.lines.length := List.length_pos_iff.2 hl
  have HE : Hid (goesV n p = sn) := Lib.hid (by rw [HGo.out, if_neg hl])
  have hv3 := HV2.out
  rw [← HE.out] at hv3 p2 hl0 hl1
  clear hl HGo HV2
  have hb3 := HB2.out
  clear HCn HNd HE
  generalize goesV n p = sg at *
  go_upto_region 6 with fail
  clear p2 f2 HB2 hl0 hl1
  obtain ⟨la3, lc3, na3, nc3, hlv3, hB3⟩ := hv3.open
  obtain ⟨p3, f3⟩ := blk hB3
  have HV3 := Lib.hid hv3
  have HB3 := Lib.hid hb3
  have HL : Hid (longV sg = (decide (200 < sg.lines.length) || decide (4000 < sg.cells))) := Lib.hid rfl
  clear hv3 hB3 hb3 hlv3
  have hcs : (200 < sg.lines.length) ∨ (¬ 200 < sg.lines.length ∧ 4000 < sg.cells) ∨ (¬ 200 < sg.lines.length ∧ ¬ 4000 < sg.cells) := by omega
  rcases hcs with h1 | ⟨h1, h2⟩ | ⟨h1, h2⟩
  ·have h1d : decide ((200 : Int) < (sg.lines.length : Int)) = true := decide_eq_true (by omega)
   have h1e : decide (200 < sg.lines.length) = true := decide_eq_true h1
   have HE : Hid (longV sg = true) := Lib.hid (by rw [HL.out, h1e]; rfl)
   clear h1
   go_wp2_with fail
   go_ret2
   exact ⟨.inl ⟨HE.out, rfl⟩, HB3.out⟩
  ·have h1d : decide ((200 : Int) < (sg.lines.length : Int)) = false := decide_eq_false (by omega)
   have h1e : decide (200 < sg.lines.length) = false := decide_eq_false h1
   have h2d : decide ((4000 : Int) < (sg.cells : Int)) = true := decide_eq_true (by omega)
   have h2e : decide (4000 < sg.cells) = true := decide_eq_true h2
   have HE : Hid (longV sg = true) := Lib.hid (by rw [HL.out, h1e, h2e]; rfl)
   clear h1 h2
   go_wp2_with fail
   go_ret2
   exact ⟨.inl ⟨HE.out, rfl⟩, HB3.out⟩
  ·have h1d : decide ((200 : Int) < (sg.lines.length : Int)) = false := decide_eq_false (by omega)
   have h1e : decide (200 < sg.lines.length) = false := decide_eq_false h1
   have h2d : decide ((4000 : Int) < (sg.cells : Int)) = false := decide_eq_false (by omega)
   have h2e : decide (4000 < sg.cells) = false := decide_eq_false h2
   have HE : Hid (longV sg = false) := Lib.hid (by rw [HL.out, h1e, h2e]; rfl)
   clear h1 h2
   go_wp2_with fail
   go_ret2
   exact ⟨.inr ⟨HE.out, _, _, _, rfl, HV3.out, Nat.le_succ _⟩, HB3.out⟩
set_option maxRecDepth 100000 in
set_option maxHeartbeats 4000000 in
theorem view_any (HCs : CssP) (h : Nat) (n : Nod) (na nk : Value) (w w0 : World) (S : Nat → Prop) (hA : AttsR false w0 S na n.attrs) (hK : NodsR false h w0 S nk n.kids) (he : EnvT w0) (h0 : Below w0.heap.size w0 w) (hav : AvN n) (hc : capM n ≤ 3900000) :
  Calls Tryz.prog 12 #[nodV n na nk] w fun e w' => ∃ va vc, e = .returned (.tuple #[.slice va (viewN n).1.length vc, .int .i64 (viewN n).2]) ∧ DocR true w' (fun b => w.heap.size ≤ b) (.slice va (viewN n).1.length vc) (viewN n).1 ∧ Below w.heap.size w w' := by
 have HG : Hid (∀ W, Below w.heap.size w W → Calls Tryz.prog 39 #[nodV n na nk, .pointer none] W (GoesSaid (goesV n none) W)) := Lib.hid fun W hW => goes_any HCs h n na nk _ none W w0 S S hA hK he (below_from h0 hW) hav hc (.inl ⟨rfl, rfl⟩)
 obtain ⟨la, lc, rfl⟩ := hA.slice
 obtain ⟨ka, kc, rfl⟩ := hK.slice
 obtain ⟨W1, hW1, hB, hz, hB1⟩ := one_node w (.int .i64 n.tag) (.slice la n.attrs.length lc) (.string ⟨n.text.toArray⟩) (.slice ka n.kids.length kc)
 have HB := Lib.hid hB
 obtain ⟨p1, f1⟩ := blk hB1
 have HVn : Hid (viewN n = if longV (goesV n none) = true then ([], 10) else ((goesV n none).lines, 0)) := Lib.hid rfl
 generalize goesV n none = s at *
 clear hA hK he h0 hav hc hz hB hB1
 unfold nodV at *
 go_enter Tryz.func12, Tryz.ntmps12
 go_upto_region 2 with (go_at_call 39; refine (HG.out _ HB.out).mono ?_; rintro e w2 ⟨⟨hlg, rfl⟩ | ⟨hlg, B2, a2, lv2, rfl, hv2, hB2⟩, hb2⟩)
 ·have HE : Hid (viewN n = ([], 10)) := Lib.hid (by rw [HVn.out, if_pos hlg])
  clear hlg
  go_wp2_with fail
  go_ret2
  rw [HE.out]
  exact ⟨none, 0, rfl, SliceR.nil _ _ _ _ _ _, below_from HB.out hb2⟩
 ·have HE : Hid (viewN n = (s.lines, 0)) := Lib.hid (by rw [HVn.out, if_neg (by rw [hlg]; simp)])
  obtain ⟨lns, xs, hBl, hI, hL, hx⟩ := hv2
  have hD := hL.doc
  rw [hx] at hD
  obtain ⟨va, vc, rfl⟩ := hD.slice
  unfold walkC at hBl
  obtain ⟨p2, f2⟩ := blk hBl
  have HD := Lib.hid hD
  have hBw : w.heap.size ≤ B2 + 1 := by have := HB.out.size; omega
  clear hlg hBl hI hL hx hD
  go_wp2_with fail
  go_ret2
  rw [HE.out]
  exact ⟨_, _, rfl, HD.out.stable (rdLin_stable _) (Keeps.refl _ _) (fun b hb _ => Nat.le_trans hBw hb), below_from HB.out hb2⟩
end Go.Proofs.YtjpgffihafknlaaGreatDoor
namespace Go.Proofs.YtjpgffihafknlaaGreatDoor
open Go.RowKit
open Go.Proofs.Qw
attribute [local go_sem] Oper.semAt_some
theorem results_pt {fn : Func} {t p : Tmp} (h : fn.results = #[.cell p 46, .tmp t]) (tmps : Array Value) (w : World) (B : Nat) (x y : Value) (hp : tmps.getD p undef = .pointer (some ⟨B, 0, none⟩)) (hB : w.heap[B]? = some (.cells #[x, y] 46)) :
  (results fn tmps).run Tryz.prog w = .ok (.tuple #[.agg #[x, y], tmps.getD t undef]) w := by
 have hp' : tmps[p]?.getD undef = .pointer (some ⟨B, 0, none⟩) := by simpa using hp
 have h1 := run_loadVar_row (P := Tryz.prog) w B 46 46 _ _ _ hB Tryz.underlying46 rfl (by kernel_rfl)
 simp [results, h, hp', asAddr, h1]
set_option maxRecDepth 100000 in
set_option maxHeartbeats 4000000 in
theorem pos_any (HCs : CssP) (h : Nat) (n : Nod) (na nk pv : Value) (path : List Int) (k : Int) (w w0 : World) (S S' : Nat → Prop) (hA : AttsR false w0 S na n.attrs) (hK : NodsR false h w0 S nk n.kids) (he : EnvT w0) (h0 : Below w0.heap.size w0 w) (hav : AvN n) (hc : capM n ≤ 3900000) (hp : IntsR false w0 S' pv path) :
  Calls Tryz.prog 19 #[nodV n na nk, .agg #[pv, .int .i64 k]] w fun e w' => e = .returned (.tuple #[.agg #[.int .i64 (posN n (path, k)).1.line, .int .i64 (posN n (path, k)).1.col], .int .i64 (posN n (path, k)).2]) ∧ Below w.heap.size w w' := by
 obtain ⟨la, lc, rfl⟩ := hA.slice
 obtain ⟨ka, kc, rfl⟩ := hK.slice
 obtain ⟨pa, pc, rfl⟩ := hp.slice
 obtain ⟨W1, hW1, hB, z1, z2, z3⟩ := three_objs w (.cells #[.int .i64 n.tag, .slice la n.attrs.length lc, .string ⟨n.text.toArray⟩, .slice ka n.kids.length kc] 25) (.cells #[.slice pa path.length pc, .int .i64 k] 44) (.cells #[.int .i64 0, .int .i64 0] 46)
 have HG : Hid (Calls Tryz.prog 39 #[.agg #[.int .i64 n.tag, .slice la n.attrs.length lc, .string ⟨n.text.toArray⟩, .slice ka n.kids.length kc], .pointer (some ⟨w.heap.size + 1, 0, none⟩)] W1 (GoesSaid (goesV n (some (path, k))) W1)) := Lib.hid (goes_any HCs h n _ _ _ (some (path, k)) W1 w0 S S' hA hK he (below_from h0 hB) hav hc (.inr ⟨path, k, w.heap.size + 1, _, rfl, rfl, lt_of_heap z2, z2, hp⟩))
 have HP : Hid (posN n (path, k) = if longV (goesV n (some (path, k))) = true then (⟨0, 0⟩, 10) else if (goesV n (some (path, k))).spot = 1 then (⟨((goesV n (some (path, k))).lines.length : Int) - 1, (((goesV n (some (path, k))).lines.getLastD default).cells.length : Int)⟩, 0) else ((goesV n (some (path, k))).pos, 0)) := Lib.hid rfl
 have hne := (goes_ok n (some (path, k))).2
 generalize goesV n (some (path, k)) = s at *
 generalize posN n (path, k) = r at *
 have HB := Lib.hid hB
 have HW1 := Lib.hid hW1
 have HZ3 := Lib.hid z3
 obtain ⟨p1, f1⟩ := blk z1
 rw [← hW1] at p1 f1
 clear hA hK he h0 hav hc hp hW1 hB z1 z2 z3
 unfold nodV
 go_enter Tryz.func19, Tryz.ntmps19
 go_upto_region 2 with (go_at_call 39; rw [HW1.out]; refine HG.out.mono ?_; rintro e w2 ⟨⟨hlg, rfl⟩ | ⟨hlg, B2, a2, lv2, rfl, hv2, hB2⟩, hb2⟩)
 ·have HE : Hid (r = (⟨0, 0⟩, 10)) := Lib.hid (by rw [HP.out, if_pos hlg])
  have z4 := heap_below hb2 HZ3.out
  obtain ⟨p4, f4⟩ := blk z4
  have HZ4 := Lib.hid z4
  clear hlg p1 f1 hne z4
  go_wp2_with fail
  refine bodyPost_ret (results_pt rfl _ _ (w.heap.size + 1 + 1) (.int .i64 0) (.int .i64 0) rfl (setCell_heap (setCell_heap HZ4.out _) _)) rfl ?_
  rw [HE.out]
  exact ⟨rfl, ((below_from HB.out hb2).setCell (by simp; omega) _).setCell (by simp; omega) _⟩
 ·have z4 := heap_below hb2 HZ3.out
  obtain ⟨lns, xs, hBl, hI, hL, hx⟩ := hv2
  obtain ⟨m, l, hml⟩ := snoc_of hne
  obtain ⟨xs0, z, rfl⟩ : ∃ xs0 z, xs = xs0 ++ [z] := by
   have hne : xs ≠ [] := fun e => by subst e; rw [hml] at hx; simp at hx
   exact ⟨xs.dropLast, xs.getLast hne, (List.dropLast_concat_getLast hne).symm⟩
  have hxl : s.lines.length = xs0.length + 1 := by rw [← hx]; simp
  obtain ⟨b, o, c, ca, cc, rfl, hc1, hc2, hbn, hbz, ⟨cs, hbh, hbs⟩, d3, hCR, _, _⟩ := hL.last
  have hlast : (s.lines.getLastD default).cells = z.1.cells := by rw [← hx]; simp [List.getLastD_eq_getLast?]
  obtain ⟨hcl1, hcl2⟩ : z.1.cells.length ≤ cc ∧ cc ≤ maxLen := ⟨(SliceR.len hCR).2.1, (SliceR.len hCR).2.2⟩
  have hN4 : ¬ w.heap.size + 1 + 1 = B2 := fun e => by subst e; have h1 := hBl.symm.trans z4; injection h1 with h1; injection h1 with _ h2; exact absurd h2 (by decide)
  have hN5 : ¬ B2 = w.heap.size + 1 + 1 := fun e => hN4 e.symm
  obtain ⟨p4, f4⟩ := blk z4
  have HZ4 := Lib.hid z4
  have HB2 := Lib.hid (below_from HB.out hb2)
  unfold walkC at hBl
  obtain ⟨p2, f2⟩ := blk hBl
  have i0 : (0 : Int) ≤ (xs0.length : Int) := Int.natCast_nonneg _
  unfold maxLen at hc2 hcl2
  by_cases hsp : s.spot = 1
  ·have HE : Hid (r = (⟨(xs0.length : Int), (z.1.cells.length : Int)⟩, 0)) := Lib.hid (by rw [HP.out, if_neg (by rw [hlg]; simp), if_pos hsp, hlast, hxl]; simp)
   have hb1 : (s.spot == 1) = true := by simpa using hsp
   rw [hsp] at p2
   clear hlg p1 f1 hne z4 hBl hI hL hx hml hxl hlast hsp hCR hbh hbs HB hb2 HP
   go_wp2_with fail
   refine bodyPost_ret (results_pt rfl _ _ (w.heap.size + 1 + 1) (.int .i64 xs0.length) (.int .i64 z.1.cells.length) rfl (setCell_heap (setCell_heap HZ4.out _) _)) rfl ?_
   rw [HE.out]
   exact ⟨rfl, (HB2.out.setCell (by simp; omega) _).setCell (by simp; omega) _⟩
  ·have HE : Hid (r = (s.pos, 0)) := Lib.hid (by rw [HP.out, if_neg (by rw [hlg]; simp), if_neg hsp])
   have hb1 : (s.spot == 1) = false := by simpa using hsp
   clear hlg p1 f1 hne z4 hBl hI hL hx hml hxl hlast hsp hCR hbh hbs HB hb2 HP
   go_wp2_with fail
   refine bodyPost_ret (results_pt rfl _ _ (w.heap.size + 1 + 1) (.int .i64 s.pos.line) (.int .i64 s.pos.col) rfl (setCell_heap (setCell_heap HZ4.out _) _)) rfl ?_
   rw [HE.out]
   exact ⟨rfl, (HB2.out.setCell (by simp; omega) _).setCell (by simp; omega) _⟩
end Go.Proofs.YtjpgffihafknlaaGreatDoor
namespace Go.Proofs.Qw
open Go.RowKit
def exV1 : Nod := .mk 1 [] [] [.mk 0 [] [97] [], .mk 2 [] [] [.mk 11 [] [] [.mk 0 [] [98] []]], .mk 2 [] [] []]
def exV2 : Nod := .mk 1 [] [] [.mk 2 [] [] [], .mk 2 [] [] [.mk 0 [] [99] []]]
def exV3 : Nod := .mk 7 [] [] [.mk 9 [] [] [.mk 0 [] [120] []], .mk 8 [] [] [.mk 9 [] [] [.mk 16 [] [] []]]]
theorem exV1_view : viewN exV1 = ([⟨0, [], 0, [⟨97, 0, []⟩]⟩, ⟨0, [], 0, [⟨98, 1, []⟩]⟩, ⟨0, [], 0, []⟩], 0) := by decide +kernel
theorem exV2_pos : posN exV2 ([], 1) = (⟨1, 0⟩, 0) := by decide +kernel
theorem exV3_view : viewN exV3 = ([⟨0, [0], 0, [⟨120, 0, []⟩]⟩, ⟨0, [0, 1], 0, [⟨10, 0, []⟩]⟩], 0) := by decide +kernel
theorem exV_light : exV1.mass ≤ 3000 ∧ exV2.mass ≤ 3000 ∧ exV3.mass ≤ 3000 := by decide +kernel
end Go.Proofs.Qw
namespace Go.Proofs.Qw
open Go.RowKit Go.Proofs.YtjpgffihafknlaaGreatDoor
theorem nods_of {h : Nat} {w : World} {S : Nat → Prop} {g : Nat} {cs : Array Value} {xs : List Nod} (hg : w.heap[g]? = some (.cells cs 25)) (hS : S g) (hl : xs.length ≤ maxLen)
  (he : ∀ i x, xs[i]? = some x → ∃ a k, AttsR false w S a x.attrs ∧ NodsR false h w S k x.kids ∧ cs[i * 4]? = some (.int .i64 x.tag) ∧ cs[i * 4 + 1]? = some a ∧ cs[i * 4 + 2]? = some (.string ⟨x.text.toArray⟩) ∧ cs[i * 4 + 3]? = some k) : NodsR false (h + 1) w S (.slice (some ⟨g, 0, none⟩) xs.length xs.length) xs := by
 refine ⟨_, xs.length, rfl, Nat.le_refl _, hl, .inr ⟨g, 0, rfl, hS, lt_of_heap hg, (fun e => by cases e), fun i x hx => ?_⟩⟩
 obtain ⟨a, k, h1, h2, h3, h4, h5, h6⟩ := he i x hx
 refine ⟨[.int .i64 x.tag, a, .string ⟨x.text.toArray⟩, k], rfl, ⟨a, k, rfl, h1, h2⟩, fun j u hu => ?_⟩
 rw [cell_of_heap hg, Nat.zero_add]
 match j, hu with
 | 0, hu => cases hu; exact h3
 | 1, hu => cases hu; exact h4
 | 2, hu => cases hu; exact h5
 | 3, hu => cases hu; exact h6
theorem nod_one {h : Nat} {w : World} {g : Nat} {x : Nod} {k : Value} (hg : w.heap[g]? = some (.cells #[.int .i64 x.tag, .slice none 0 0, .string ⟨x.text.toArray⟩, k] 25)) (ha : x.attrs = []) (hk : NodsR false h w (fun _ => True) k x.kids) : NodsR false (h + 1) w (fun _ => True) (.slice (some ⟨g, 0, none⟩) 1 1) [x] :=
 nods_of (xs := [x]) hg trivial (show 1 ≤ maxLen by decide) fun i y hy => match i, hy with
  | 0, hy => by cases hy; exact ⟨_, k, by rw [ha]; exact SliceR.nil _ _ _ _ _ _, hk, rfl, rfl, rfl, rfl⟩
theorem nod_two {h : Nat} {w : World} {g : Nat} {x y : Nod} {k l : Value} (hg : w.heap[g]? = some (.cells #[.int .i64 x.tag, .slice none 0 0, .string ⟨x.text.toArray⟩, k, .int .i64 y.tag, .slice none 0 0, .string ⟨y.text.toArray⟩, l] 25)) (ha : x.attrs = []) (hb : y.attrs = []) (hk : NodsR false h w (fun _ => True) k x.kids) (hl : NodsR false h w (fun _ => True) l y.kids) : NodsR false (h + 1) w (fun _ => True) (.slice (some ⟨g, 0, none⟩) 2 2) [x, y] :=
 nods_of (xs := [x, y]) hg trivial (show 2 ≤ maxLen by decide) fun i z hz => match i, hz with
  | 0, hz => by cases hz; exact ⟨_, k, by rw [ha]; exact SliceR.nil _ _ _ _ _ _, hk, rfl, rfl, rfl, rfl⟩
  | 1, hz => by cases hz; exact ⟨_, l, by rw [hb]; exact SliceR.nil _ _ _ _ _ _, hl, rfl, rfl, rfl, rfl⟩
theorem nod_three {h : Nat} {w : World} {g : Nat} {x y z : Nod} {k l m : Value} (hg : w.heap[g]? = some (.cells #[.int .i64 x.tag, .slice none 0 0, .string ⟨x.text.toArray⟩, k, .int .i64 y.tag, .slice none 0 0, .string ⟨y.text.toArray⟩, l, .int .i64 z.tag, .slice none 0 0, .string ⟨z.text.toArray⟩, m] 25)) (ha : x.attrs = []) (hb : y.attrs = []) (hc : z.attrs = []) (hk : NodsR false h w (fun _ => True) k x.kids) (hl : NodsR false h w (fun _ => True) l y.kids) (hm : NodsR false h w (fun _ => True) m z.kids) : NodsR false (h + 1) w (fun _ => True) (.slice (some ⟨g, 0, none⟩) 3 3) [x, y, z] :=
 nods_of (xs := [x, y, z]) hg trivial (show 3 ≤ maxLen by decide) fun i u hu => match i, hu with
  | 0, hu => by cases hu; exact ⟨_, k, by rw [ha]; exact SliceR.nil _ _ _ _ _ _, hk, rfl, rfl, rfl, rfl⟩
  | 1, hu => by cases hu; exact ⟨_, l, by rw [hb]; exact SliceR.nil _ _ _ _ _ _, hl, rfl, rfl, rfl, rfl⟩
  | 2, hu => by cases hu; exact ⟨_, m, by rw [hc]; exact SliceR.nil _ _ _ _ _ _, hm, rfl, rfl, rfl, rfl⟩
structure AwV1 (w : World) (b1 o1 b2 o2 c2 : Nat) (ca : Option Addr) (cc : Nat) : Prop where
 z1 : b1 < w.heap.size
 z2 : b2 < w.heap.size
 k1 : w.cell? ⟨b1, o1 + 4 + 3, none⟩ = some (.slice (some ⟨b2, o2, none⟩) 1 c2)
 k2 : w.cell? ⟨b2, o2, none⟩ = some (.int .i32 98)
 k3 : w.cell? ⟨b2, o2 + 1, none⟩ = some (.int .i64 1)
 k4 : w.cell? ⟨b2, o2 + 2, none⟩ = some (.string ⟨#[]⟩)
 k5 : w.cell? ⟨b1, o1 + 8 + 3, none⟩ = some (.slice ca 0 cc)
theorem AwV1.below {w w' : World} {b1 o1 b2 o2 c2 cc : Nat} {ca : Option Addr} (h : AwV1 w b1 o1 b2 o2 c2 ca cc) (hb : Below w.heap.size w w') : AwV1 w' b1 o1 b2 o2 c2 ca cc :=
 ⟨Nat.lt_of_lt_of_le h.z1 hb.size, Nat.lt_of_lt_of_le h.z2 hb.size, (hb.cell h.z1).trans h.k1, (hb.cell h.z2).trans h.k2, (hb.cell h.z2).trans h.k3, (hb.cell h.z2).trans h.k4, (hb.cell h.z1).trans h.k5⟩
theorem awV1_of {w : World} {S : Nat → Prop} {va : Option Addr} {vc : Nat} (h : LinsR w S (.slice va 3 vc) (viewN exV1).1) : ∃ b1 o1 b2 o2 c2 ca cc, va = some ⟨b1, o1, none⟩ ∧ 3 ≤ vc ∧ vc ≤ maxLen ∧ 1 ≤ c2 ∧ c2 ≤ maxLen ∧ cc ≤ maxLen ∧ AwV1 w b1 o1 b2 o2 c2 ca cc := by
 rw [exV1_view] at h
 obtain ⟨a, c, e, hc, hm, hx⟩ := lins_shape h
 cases e
 obtain ⟨b1, o1, la, lc, ca, cc, rfl, h1⟩ := hx 1 _ rfl
 obtain ⟨b1', o1', la', lc', ca', cc', e', h2⟩ := hx 2 _ rfl
 cases e'
 obtain ⟨a2, c2, e2, hc2, hm2, hx2⟩ := cels_shape h1.cellsR
 cases e2
 obtain ⟨b2, o2, rfl, hz2, g1, g2, g3⟩ := hx2 0 _ rfl
 have hcc := SliceR.len h2.cellsR
 exact ⟨b1, o1, b2, o2, cc, ca', cc', rfl, hc, hm, hc2, hm2, hcc.2.2, h1.lt, hz2, h1.cells, g1, g2, g3, h2.cells⟩
structure AwV3 (w : World) (b3 o3 b4 o4 c4 b5 o5 c5 : Nat) : Prop where
 z3 : b3 < w.heap.size
 z4 : b4 < w.heap.size
 z5 : b5 < w.heap.size
 k1 : w.cell? ⟨b3, o3 + 4 + 1, none⟩ = some (.slice (some ⟨b4, o4, none⟩) 2 c4)
 k2 : w.cell? ⟨b4, o4 + 1, none⟩ = some (.int .i64 1)
 k3 : w.cell? ⟨b3, o3 + 4 + 3, none⟩ = some (.slice (some ⟨b5, o5, none⟩) 1 c5)
 k4 : w.cell? ⟨b5, o5, none⟩ = some (.int .i32 10)
theorem awV3_of {w : World} {S : Nat → Prop} {va : Option Addr} {vc : Nat} (h : LinsR w S (.slice va 2 vc) (viewN exV3).1) : ∃ b3 o3 b4 o4 c4 b5 o5 c5, va = some ⟨b3, o3, none⟩ ∧ 2 ≤ vc ∧ vc ≤ maxLen ∧ 2 ≤ c4 ∧ c4 ≤ maxLen ∧ 1 ≤ c5 ∧ c5 ≤ maxLen ∧ AwV3 w b3 o3 b4 o4 c4 b5 o5 c5 := by
 rw [exV3_view] at h
 obtain ⟨a, c, e, hc, hm, hx⟩ := lins_shape h
 cases e
 obtain ⟨b3, o3, la, lc, ca, cc, rfl, h1⟩ := hx 1 _ rfl
 obtain ⟨a2, c2, e2, hc2, hm2, hx2⟩ := cels_shape h1.cellsR
 cases e2
 obtain ⟨b5, o5, rfl, hz5, g1, _, _⟩ := hx2 0 _ rfl
 obtain ⟨a4, c4, e4, hc4, hm4, hx4⟩ := ints_shape h1.listsR
 cases e4
 obtain ⟨b4, o4, rfl, hz4, g4⟩ := hx4 1 _ rfl
 exact ⟨b3, o3, b4, o4, lc, b5, o5, cc, rfl, hc, hm, hc4, hm4, hc2, hm2, h1.lt, hz4, hz5, h1.lists, g4, h1.cells, g1⟩
end Go.Proofs.Qw
namespace Go.Proofs.YtjpgffihafknlaaGreatDoor
open Go.RowKit
open Go.Proofs.Qw
attribute [local go_sem] Oper.semAt_some
theorem text18_any (x : ByteArray) (w : World) : Calls Tryz.prog 18 #[.string x] w fun e w' => e = .returned (.agg #[.int .i64 0, .slice none 0 0, .string x, .slice none 0 0]) ∧ Below w.heap.size w w' := by
 obtain ⟨W1, hW1, hB, hz, hB1⟩ := one_node w (.int .i64 0) (.slice none 0 0) (.string ⟨#[]⟩) (.slice none 0 0)
 obtain ⟨p1, f1⟩ := blk hB1
 go_enter Tryz.func18, Tryz.ntmps18
 go_wp2_with fail
 refine bodyPost_ret (results_node rfl _ _ w.heap.size (.int .i64 0) (.slice none 0 0) (.string x) (.slice none 0 0) rfl (by simp [heap_set, putIn, hB1])) rfl ?_
 exact ⟨rfl, (((hB.setCell (Nat.le_refl _) _).setCell (Nat.le_refl _) _).setCell (Nat.le_refl _) _).setCell (Nat.le_refl _) _⟩
theorem elem18_any (t : Int) (a : Option Addr) (n c : Nat) (w : World) : Calls Tryz.prog 16 #[.int .i64 t, .slice a n c] w fun e w' => e = .returned (.agg #[.int .i64 t, .slice none 0 0, .string ⟨#[]⟩, .slice a n c]) ∧ Below w.heap.size w w' := by
 obtain ⟨W1, hW1, hB, hz, hB1⟩ := one_node w (.int .i64 0) (.slice none 0 0) (.string ⟨#[]⟩) (.slice none 0 0)
 obtain ⟨p1, f1⟩ := blk hB1
 go_enter Tryz.func16, Tryz.ntmps16
 go_wp2_with fail
 refine bodyPost_ret (results_node rfl _ _ w.heap.size (.int .i64 t) (.slice none 0 0) (.string ⟨#[]⟩) (.slice a n c) rfl (by simp [heap_set, putIn, hB1])) rfl ?_
 exact ⟨rfl, (((hB.setCell (Nat.le_refl _) _).setCell (Nat.le_refl _) _).setCell (Nat.le_refl _) _).setCell (Nat.le_refl _) _⟩
theorem ex_fit (n : Nod) (h : n.mass ≤ 3000) : AvN n ∧ capM n ≤ 3900000 := ⟨(cap_light n).2 h, Nat.le_trans (cap_light n).1 (by omega)⟩
set_option maxRecDepth 100000 in
set_option maxHeartbeats 4000000 in
theorem awake18_any (HCs : CssP) (w : World) (he : EnvT w) : Calls Tryz.prog 10 #[] w fun e w' => e = .returned (.bool true) ∧ Below w.heap.size w w' := by
 have HT : Hid (∀ x W, Calls Tryz.prog 18 #[.string x] W fun e w' => e = .returned (.agg #[.int .i64 0, .slice none 0 0, .string x, .slice none 0 0]) ∧ Below W.heap.size W w') := Lib.hid text18_any
 have HEl : Hid (∀ t a n c W, Calls Tryz.prog 16 #[.int .i64 t, .slice a n c] W fun e w' => e = .returned (.agg #[.int .i64 t, .slice none 0 0, .string ⟨#[]⟩, .slice a n c]) ∧ Below W.heap.size W w') := Lib.hid elem18_any
 have HV1 : Hid (∀ W g, Below w.heap.size w W → NodsR false 3 W (fun _ => True) (.slice (some ⟨g, 0, none⟩) 3 3) exV1.kids → Calls Tryz.prog 12 #[.agg #[.int .i64 1, .slice none 0 0, .string ⟨#[]⟩, .slice (some ⟨g, 0, none⟩) 3 3]] W fun e w' => ∃ va vc, e = .returned (.tuple #[.slice va 3 vc, .int .i64 0]) ∧ LinsR w' (fun _ => True) (.slice va 3 vc) (viewN exV1).1 ∧ Below W.heap.size W w') := Lib.hid fun W g hW hk => (view_any HCs 3 exV1 (.slice none 0 0) _ W W _ (SliceR.nil _ _ _ _ _ _) hk (he.below hW) (Below.refl _ _) (ex_fit _ exV_light.1).1 (ex_fit _ exV_light.1).2).mono fun _ _ ⟨va, vc, h1, h2, h3⟩ => by
  have hr := (DocR.read h2).stable (rdLin_stable _) (Keeps.refl _ _) (S' := fun _ => True) (fun _ _ _ => trivial)
  have e : viewN exV1 = _ := exV1_view
  rw [e] at h1
  refine ⟨va, vc, h1, ?_, h3⟩
  have e3 : (viewN exV1).1.length = 3 := by rw [e]; rfl
  rw [e3] at hr
  exact hr
 have HV3 : Hid (∀ W g, Below w.heap.size w W → NodsR false 3 W (fun _ => True) (.slice (some ⟨g, 0, none⟩) 2 2) exV3.kids → Calls Tryz.prog 12 #[.agg #[.int .i64 7, .slice none 0 0, .string ⟨#[]⟩, .slice (some ⟨g, 0, none⟩) 2 2]] W fun e w' => ∃ va vc, e = .returned (.tuple #[.slice va 2 vc, .int .i64 0]) ∧ LinsR w' (fun _ => True) (.slice va 2 vc) (viewN exV3).1 ∧ Below W.heap.size W w') := Lib.hid fun W g hW hk => (view_any HCs 3 exV3 (.slice none 0 0) _ W W _ (SliceR.nil _ _ _ _ _ _) hk (he.below hW) (Below.refl _ _) (ex_fit _ exV_light.2.2).1 (ex_fit _ exV_light.2.2).2).mono fun _ _ ⟨va, vc, h1, h2, h3⟩ => by
  have hr := (DocR.read h2).stable (rdLin_stable _) (Keeps.refl _ _) (S' := fun _ => True) (fun _ _ _ => trivial)
  have e : viewN exV3 = _ := exV3_view
  rw [e] at h1
  refine ⟨va, vc, h1, ?_, h3⟩
  have e3 : (viewN exV3).1.length = 2 := by rw [e]; rfl
  rw [e3] at hr
  exact hr
 have HP2 : Hid (∀ W g, Below w.heap.size w W → NodsR false 3 W (fun _ => True) (.slice (some ⟨g, 0, none⟩) 2 2) exV2.kids → Calls Tryz.prog 19 #[.agg #[.int .i64 1, .slice none 0 0, .string ⟨#[]⟩, .slice (some ⟨g, 0, none⟩) 2 2], .agg #[.slice none 0 0, .int .i64 1]] W fun e w' => e = .returned (.tuple #[.agg #[.int .i64 1, .int .i64 0], .int .i64 0]) ∧ Below W.heap.size W w') := Lib.hid fun W g hW hk => (pos_any HCs 3 exV2 (.slice none 0 0) _ _ [] 1 W W _ (fun _ => True) (SliceR.nil _ _ _ _ _ _) hk (he.below hW) (Below.refl _ _) (ex_fit _ exV_light.2.1).1 (ex_fit _ exV_light.2.1).2 (SliceR.nil _ _ _ _ _ _)).mono fun _ _ ⟨h1, h3⟩ => by
  rw [exV2_pos] at h1
  exact ⟨h1, h3⟩
 clear he HCs
 go_enter Tryz.func10, Tryz.ntmps10
 go_upto_region 2 with (first
  | (go_at_call 18; (with_reducible refine (HT.out ⟨#[97]⟩ _).mono ?_); rintro e w1 ⟨rfl, hbw1⟩; have hx1 := hbw1)
  | (go_at_call 18; (with_reducible refine (HT.out ⟨#[98]⟩ _).mono ?_); rintro e w2 ⟨rfl, hbw2⟩; have hx2 := below_from hx1 hbw2)
  | (go_at_call 16; (with_reducible refine (HEl.out 11 (some ⟨w2.heap.size, 0, none⟩) 1 1 _).mono ?_); rintro e w3 ⟨rfl, hbw3⟩; have hx3 := below_from (hx2.alloc hx2.size _) hbw3; have k1 := heap_below hbw3 (heap_new w2 (.cells #[.int .i64 0, .slice none 0 0, .string ⟨#[98]⟩, .slice none 0 0] 25) rfl))
  | (go_at_call 16; (with_reducible refine (HEl.out 2 (some ⟨w3.heap.size, 0, none⟩) 1 1 _).mono ?_); rintro e w4 ⟨rfl, hbw4⟩; have hx4 := below_from (hx3.alloc hx3.size _) hbw4; have k2 := heap_below hbw4 (heap_new w3 (.cells #[.int .i64 11, .slice none 0 0, .string ⟨#[]⟩, .slice (some ⟨w2.heap.size, 0, none⟩) 1 1] 25) rfl); have k1 := heap_below hbw4 (heap_old w3 (.cells #[.int .i64 11, .slice none 0 0, .string ⟨#[]⟩, .slice (some ⟨w2.heap.size, 0, none⟩) 1 1] 25) k1))
  | (go_at_call 16; (with_reducible refine (HEl.out 2 none 0 0 _).mono ?_); rintro e w5 ⟨rfl, hbw5⟩; have hx5 := below_from hx4 hbw5; have k2 := heap_below hbw5 k2; have k1 := heap_below hbw5 k1)
  | (go_at_call 16; (with_reducible refine (HEl.out 1 (some ⟨w5.heap.size, 0, none⟩) 3 3 _).mono ?_); rintro e w6 ⟨rfl, hbw6⟩; have hx6 := below_from (hx5.alloc hx5.size _) hbw6; have k3 := heap_below hbw6 (heap_new w5 (.cells #[.int .i64 0, .slice none 0 0, .string ⟨#[97]⟩, .slice none 0 0, .int .i64 2, .slice none 0 0, .string ⟨#[]⟩, .slice (some ⟨w3.heap.size, 0, none⟩) 1 1, .int .i64 2, .slice none 0 0, .string ⟨#[]⟩, .slice none 0 0] 25) rfl); have k2 := heap_below hbw6 (heap_old w5 (.cells #[.int .i64 0, .slice none 0 0, .string ⟨#[97]⟩, .slice none 0 0, .int .i64 2, .slice none 0 0, .string ⟨#[]⟩, .slice (some ⟨w3.heap.size, 0, none⟩) 1 1, .int .i64 2, .slice none 0 0, .string ⟨#[]⟩, .slice none 0 0] 25) k2); have k1 := heap_below hbw6 (heap_old w5 (.cells #[.int .i64 0, .slice none 0 0, .string ⟨#[97]⟩, .slice none 0 0, .int .i64 2, .slice none 0 0, .string ⟨#[]⟩, .slice (some ⟨w3.heap.size, 0, none⟩) 1 1, .int .i64 2, .slice none 0 0, .string ⟨#[]⟩, .slice none 0 0] 25) k1); have r1 := nod_one (h := 0) (x := .mk 0 [] [98] []) k1 rfl (SliceR.nil _ _ _ _ _ _); have r2 := nod_one (x := .mk 11 [] [] [.mk 0 [] [98] []]) k2 rfl r1; have r3 := nod_three (x := .mk 0 [] [97] []) (y := .mk 2 [] [] [.mk 11 [] [] [.mk 0 [] [98] []]]) (z := .mk 2 [] [] []) k3 rfl rfl rfl (SliceR.nil _ _ _ _ _ _) r2 (SliceR.nil _ _ _ _ _ _); have HR1 := Lib.hid r3)
  | (go_at_call 12; refine (HV1.out w6 w5.heap.size hx6 HR1.out).mono ?_; rintro e w7 ⟨va, vc, rfl, hd1, hbw7⟩; have hx7 := below_from hx6 hbw7))
 obtain ⟨b1, o1, b2, o2, c2, ca, cc, rfl, hl1, hl2, hl3, hl4, hl5, ha1⟩ := awV1_of hd1
 have HA1 := Lib.hid ha1
 have HX7 := Lib.hid hx7
 clear hx1 hx2 hx3 hx4 hx5 hx6 hx7 hbw1 hbw2 hbw3 hbw4 hbw5 hbw6 hbw7 k1 k2 k3 r1 r2 r3 HR1 hd1 HV1 ha1
 go_upto_region 3 with (first
  | (go_at_call 16; (with_reducible refine (HEl.out 2 none 0 0 _).mono ?_); rintro e w1 ⟨rfl, hbw1⟩; have hx1 := hbw1)
  | (go_at_call 18; (with_reducible refine (HT.out ⟨#[99]⟩ _).mono ?_); rintro e w2 ⟨rfl, hbw2⟩; have hx2 := below_from hx1 hbw2)
  | (go_at_call 16; (with_reducible refine (HEl.out 2 (some ⟨w2.heap.size, 0, none⟩) 1 1 _).mono ?_); rintro e w3 ⟨rfl, hbw3⟩; have hx3 := below_from (hx2.alloc hx2.size _) hbw3; have k1 := heap_below hbw3 (heap_new w2 (.cells #[.int .i64 0, .slice none 0 0, .string ⟨#[99]⟩, .slice none 0 0] 25) rfl))
  | (go_at_call 16; (with_reducible refine (HEl.out 1 (some ⟨w3.heap.size, 0, none⟩) 2 2 _).mono ?_); rintro e w4 ⟨rfl, hbw4⟩; have hx4 := below_from (hx3.alloc hx3.size _) hbw4; have k2 := heap_below hbw4 (heap_new w3 (.cells #[.int .i64 2, .slice none 0 0, .string ⟨#[]⟩, .slice none 0 0, .int .i64 2, .slice none 0 0, .string ⟨#[]⟩, .slice (some ⟨w2.heap.size, 0, none⟩) 1 1] 25) rfl); have k1 := heap_below hbw4 (heap_old w3 (.cells #[.int .i64 2, .slice none 0 0, .string ⟨#[]⟩, .slice none 0 0, .int .i64 2, .slice none 0 0, .string ⟨#[]⟩, .slice (some ⟨w2.heap.size, 0, none⟩) 1 1] 25) k1); have r1 := nod_one (h := 1) (x := .mk 0 [] [99] []) k1 rfl (SliceR.nil _ _ _ _ _ _); have r3 := nod_two (x := .mk 2 [] [] []) (y := .mk 2 [] [] [.mk 0 [] [99] []]) k2 rfl rfl (SliceR.nil _ _ _ _ _ _) r1; have HR1 := Lib.hid r3; have hxx := Lib.hid (below_from HX7.out hx4))
  | (go_at_call 19; refine (HP2.out w4 w3.heap.size hxx.out HR1.out).mono ?_; rintro e w5 ⟨rfl, hbw5⟩; have hx5 := below_from hx4 hbw5))
 obtain ⟨W5, hW5⟩ : ∃ W, w5.alloc (.cells #[.int .i64 1, .int .i64 0] 46) = W := ⟨_, rfl⟩
 rw [hW5]
 have hb57 : Below w7.heap.size w7 W5 := hW5 ▸ (hx5.alloc hx5.size _)
 have HP5 : Hid (W5.heap[w5.heap.size]? = some (.cells #[.int .i64 1, .int .i64 0] 46)) := Lib.hid (hW5 ▸ heap_new _ _ rfl)
 have HA5 := Lib.hid (HA1.out.below hb57)
 have HX5 := Lib.hid (below_from HX7.out hb57)
 have hqc : ∀ w, (binOp .eql 66 (.agg #[.int .i32 98, .int .i64 1, .string ⟨#[]⟩]) (.agg #[.int .i32 98, .int .i64 1, .string ⟨#[]⟩])).run Tryz.prog w = .ok (.bool true) w := fun w => by kernel_rfl
 have hqp : ∀ w, (binOp .eql 46 (.agg #[.int .i64 1, .int .i64 0]) (.agg #[.int .i64 1, .int .i64 0])).run Tryz.prog w = .ok (.bool true) w := fun w => by kernel_rfl
 unfold maxLen at *
 clear hW5 hb57 hx1 hx2 hx3 hx4 hx5 hbw1 hbw2 hbw3 hbw4 hbw5 k1 k2 r1 r3 HR1 hxx HP2 HA1 HX7
 go_wp2_with (first
  | (go_at_call 18; (with_reducible refine (HT.out ⟨#[120]⟩ _).mono ?_); rintro e a1 ⟨rfl, hba1⟩; have hy1 := hba1)
  | (go_at_call 16; (with_reducible refine (HEl.out 9 (some ⟨a1.heap.size, 0, none⟩) 1 1 _).mono ?_); rintro e a2 ⟨rfl, hba2⟩; have hy2 := below_from (hy1.alloc hy1.size _) hba2; have k1 := heap_below hba2 (heap_new a1 (.cells #[.int .i64 0, .slice none 0 0, .string ⟨#[120]⟩, .slice none 0 0] 25) rfl))
  | (go_at_call 16; (with_reducible refine (HEl.out 16 none 0 0 _).mono ?_); rintro e a3 ⟨rfl, hba3⟩; have hy3 := below_from hy2 hba3; have k1 := heap_below hba3 k1)
  | (go_at_call 16; (with_reducible refine (HEl.out 9 (some ⟨a3.heap.size, 0, none⟩) 1 1 _).mono ?_); rintro e a4 ⟨rfl, hba4⟩; have hy4 := below_from (hy3.alloc hy3.size _) hba4; have k2 := heap_below hba4 (heap_new a3 (.cells #[.int .i64 16, .slice none 0 0, .string ⟨#[]⟩, .slice none 0 0] 25) rfl); have k1 := heap_below hba4 (heap_old a3 (.cells #[.int .i64 16, .slice none 0 0, .string ⟨#[]⟩, .slice none 0 0] 25) k1))
  | (go_at_call 16; (with_reducible refine (HEl.out 8 (some ⟨a4.heap.size, 0, none⟩) 1 1 _).mono ?_); rintro e a5 ⟨rfl, hba5⟩; have hy5 := below_from (hy4.alloc hy4.size _) hba5; have k3 := heap_below hba5 (heap_new a4 (.cells #[.int .i64 9, .slice none 0 0, .string ⟨#[]⟩, .slice (some ⟨a3.heap.size, 0, none⟩) 1 1] 25) rfl); have k2 := heap_below hba5 (heap_old a4 (.cells #[.int .i64 9, .slice none 0 0, .string ⟨#[]⟩, .slice (some ⟨a3.heap.size, 0, none⟩) 1 1] 25) k2); have k1 := heap_below hba5 (heap_old a4 (.cells #[.int .i64 9, .slice none 0 0, .string ⟨#[]⟩, .slice (some ⟨a3.heap.size, 0, none⟩) 1 1] 25) k1))
  | (go_at_call 16; (with_reducible refine (HEl.out 7 (some ⟨a5.heap.size, 0, none⟩) 2 2 _).mono ?_); rintro e a6 ⟨rfl, hba6⟩; have hy6 := below_from (hy5.alloc hy5.size _) hba6; have k4 := heap_below hba6 (heap_new a5 (.cells #[.int .i64 9, .slice none 0 0, .string ⟨#[]⟩, .slice (some ⟨a1.heap.size, 0, none⟩) 1 1, .int .i64 8, .slice none 0 0, .string ⟨#[]⟩, .slice (some ⟨a4.heap.size, 0, none⟩) 1 1] 25) rfl); have k3 := heap_below hba6 (heap_old a5 (.cells #[.int .i64 9, .slice none 0 0, .string ⟨#[]⟩, .slice (some ⟨a1.heap.size, 0, none⟩) 1 1, .int .i64 8, .slice none 0 0, .string ⟨#[]⟩, .slice (some ⟨a4.heap.size, 0, none⟩) 1 1] 25) k3); have k2 := heap_below hba6 (heap_old a5 (.cells #[.int .i64 9, .slice none 0 0, .string ⟨#[]⟩, .slice (some ⟨a1.heap.size, 0, none⟩) 1 1, .int .i64 8, .slice none 0 0, .string ⟨#[]⟩, .slice (some ⟨a4.heap.size, 0, none⟩) 1 1] 25) k2); have k1 := heap_below hba6 (heap_old a5 (.cells #[.int .i64 9, .slice none 0 0, .string ⟨#[]⟩, .slice (some ⟨a1.heap.size, 0, none⟩) 1 1, .int .i64 8, .slice none 0 0, .string ⟨#[]⟩, .slice (some ⟨a4.heap.size, 0, none⟩) 1 1] 25) k1); have r1 := nods_mono' (show 1 ≤ 2 by decide) (nod_one (h := 0) (x := .mk 0 [] [120] []) k1 rfl (SliceR.nil _ _ _ _ _ _)); have r2 := nod_one (h := 0) (x := .mk 16 [] [] []) k2 rfl (SliceR.nil _ _ _ _ _ _); have r3 := nod_one (x := .mk 9 [] [] [.mk 16 [] [] []]) k3 rfl r2; have r4 := nod_two (x := .mk 9 [] [] [.mk 0 [] [120] []]) (y := .mk 8 [] [] [.mk 9 [] [] [.mk 16 [] [] []]]) k4 rfl rfl r1 r3; have HR1 := Lib.hid r4; have hxx := Lib.hid (below_from HX5.out hy6))
  | (go_at_call 12; refine (HV3.out a6 a5.heap.size hxx.out HR1.out).mono ?_; rintro e a7 ⟨va, vc2, rfl, hd3, hba7⟩; have hy7 := below_from hy6 hba7; obtain ⟨b3, o3, b4, o4, c4, b5, o5, c5, rfl, hm1, hm2, hm3, hm4, hm5, hm6, ha3⟩ := awV3_of hd3; obtain ⟨y1, y2, y3, m1, m2, m3, m4⟩ := ha3; obtain ⟨x1, x2, n1, n2, n3, n4, n5⟩ := HA5.out.below hy7; obtain ⟨q9, g9⟩ := blk (heap_below hy7 HP5.out); unfold maxLen at *; have hfin := below_from HX5.out hy7))
 go_ret
 exact ⟨rfl, hfin⟩
end Go.Proofs.YtjpgffihafknlaaGreatDoor
namespace Go.Proofs.Qw
open Go.RowKit
theorem weighA_step {ats : List Att} {k : Nat} {x : Att} {L : Int} (h : ats.drop k = x :: ats.drop (k + 1)) (h0 : 0 ≤ L) : weighA (ats.drop k) L = weighA (ats.drop (k + 1)) (L - 1 - (x.name.length : Int) / 16 - (x.value.length : Int) / 16) := by rw [h, weighA, if_pos h0]
theorem weighK_step {ks : List Nod} {k : Nat} {x : Nod} {L : Int} (h : ks.drop k = x :: ks.drop (k + 1)) (h0 : 0 ≤ L) : weighK (ks.drop k) L = weighK (ks.drop (k + 1)) (weighN x L) := by rw [h, weighK, if_pos h0]
theorem sane_parts {n : Nod} (h : n.Sane) : n.text.length ≤ 281474976710656 ∧ n.kids.length ≤ 281474976710656 ∧ n.attrs.length ≤ 281474976710656 ∧ (∀ a ∈ n.attrs, a.name.length ≤ 281474976710656 ∧ a.value.length ≤ 281474976710656) ∧ Nod.Sanes n.kids := by
 obtain ⟨t, a, x, k⟩ := n
 rw [Nod.Sane] at h
 exact ⟨h.1.1, h.1.2.1, h.1.2.2.1, h.1.2.2.2, h.2⟩
theorem weigh_parts (n : Nod) (l : Int) : weighN n l = weighK n.kids (weighA n.attrs (l - 1 - (n.text.length : Int) / 16)) := by cases n; rw [weighN]; rfl
end Go.Proofs.Qw
namespace Go.Proofs.YtjpgffihafknlaaGreatDoor
open Go.RowKit
open Go.Proofs.Qw
attribute [local go_sem ↓] Go.wp_at_zero Go.wp_at_succ
def WeighAt (h : Nat) : Prop := ∀ (n : Nod) (a k : Value) (l : Int) (w : World) (S : Nat → Prop), AttsR false w S a n.attrs → NodsR false h w S k n.kids → 0 ≤ l → l ≤ 1000000000 → n.Sane →
  Calls Tryz.prog 37 #[nodV n a k, .int .i64 l] w fun e w' => e = .returned (.int .i64 (weighN n l)) ∧ Below w.heap.size w w'
set_option maxRecDepth 100000 in
set_option maxHeartbeats 4000000 in
theorem weigh_step (h : Nat) (ih : ∀ h', h = h' + 1 → WeighAt h') : WeighAt h := by
 intro n a kv l w S hA hK hl0 hl1 hs
 obtain ⟨la, lc, rfl, hac, ham, hax⟩ := atts_shape hA
 obtain ⟨ka, kc, rfl, hc, hm, hx⟩ := nods_shape hK
 obtain ⟨s1, s2, s3, s4, s5⟩ := sane_parts hs
 have HX := Lib.hid hx
 have HAX := Lib.hid hax
 have HI := Lib.hid ih
 have HS := Lib.hid (And.intro s4 s5)
 have HW0 := Lib.hid (weigh_parts n l)
 have HGE := Lib.hid (weighA_ge n.attrs (l - 1 - (n.text.length : Int) / 16) s4)
 have HLE := Lib.hid (weighA_le n.attrs (l - 1 - (n.text.length : Int) / 16))
 clear hA hK hx hax ih hs s4 s5
 unfold maxLen at hm ham
 obtain ⟨W1, hW1, hB, hz, hB1⟩ := one_node w (.int .i64 n.tag) (.slice la n.attrs.length lc) (.string ⟨n.text.toArray⟩) (.slice ka n.kids.length kc)
 have HZ := Lib.hid hz
 have HB1 := Lib.hid hB1
 clear hz
 obtain ⟨p1, f1⟩ := blk hB1
 clear hB1
 generalize hL0 : l - 1 - (n.text.length : Int) / 16 = L0 at *
 have hr0 : -100000000000000 ≤ L0 ∧ L0 ≤ 1000000000 := by omega
 have HE0 := Lib.hid hL0
 clear hL0
 go_enter Tryz.func37, Tryz.ntmps37
 go_wp2_with fail
 go_loopw [1, 5] (fun m i wr => ∃ (k : Nat) (L : Int), k ≤ n.attrs.length ∧ i = .int .i64 k ∧ m = .int .i64 L ∧ L ≤ 1000000000 ∧ -100000000000000 ≤ L ∧ Hid (weighA n.attrs L0 = weighA (n.attrs.drop k) L) ∧ Below W1.heap.size W1 wr) (fun _ i _ => n.attrs.length - (intOf i).toNat)
 case atStart => exact ⟨0, L0, Nat.zero_le _, rfl, by rw [HE0.out], hr0.2, hr0.1, Lib.hid rfl, Below.refl _ _⟩
 case round =>
  obtain ⟨k, L, hk, rfl, rfl, hL1, hL2, HE, hb⟩ := hrel
  obtain ⟨p2, f2⟩ := blk (heap_below hb HB1.out)
  have hs1 := hB.size
  have z0 := HZ.out
  by_cases hlt : k < n.attrs.length ∧ 0 ≤ L
  ·obtain ⟨hlt, hL0⟩ := hlt
   obtain ⟨x, hl, hd⟩ := getOf n.attrs k hlt
   obtain ⟨b, o, rfl, hbz, c0, c1⟩ := HAX.out k x hl
   have hbw : Below w.heap.size w wr := hB.trans (hb.mono hs1)
   have c0 := (hbw.cell (p := ⟨b, o + k * 2, none⟩) hbz).trans c0
   have c1 := (hbw.cell (p := ⟨b, o + k * 2 + 1, none⟩) hbz).trans c1
   have hx := HS.out.1 x (List.mem_of_getElem? hl)
   have HE2 := Lib.hid (HE.out.trans (weighA_step hd hL0))
   have hbs := hb.size
   obtain ⟨q1, q2⟩ := hx
   clear hd hl HE
   go_wp2_with fail
   go_region
   all_goals go_wp2_with fail
   all_goals
    go_roundw
    case rel => exact ⟨k + 1, L - 1 - (x.name.length : Int) / 16 - (x.value.length : Int) / 16, hlt, by go_num, rfl, by omega, by omega, HE2, hb.drew⟩
    case measure => simp [intOf]; omega
  ·have hor : (k < n.attrs.length ∧ L < 0) ∨ k = n.attrs.length := by omega
   have HEnd : Hid (weighA n.attrs L0 = L) := Lib.hid (by
    rw [HE.out]
    rcases hor with ⟨_, h2⟩ | rfl
    ·exact weighA_neg h2
    ·rw [List.drop_length]; rfl)
   have HBw := Lib.hid hb
   clear HE hlt
   rcases hor with ⟨h1, h2⟩ | rfl
   all_goals
    clear hb
    have hb := HBw.out
    go_wp2_with fail
    go_loopw [1, 6] (fun m i wq => ∃ (k : Nat) (L2 : Int), k ≤ n.kids.length ∧ i = .int .i64 k ∧ m = .int .i64 L2 ∧ L2 ≤ 1000000000 ∧ -100000000000000 ≤ L2 ∧ Hid (weighK n.kids L = weighK (n.kids.drop k) L2) ∧ Below W1.heap.size W1 wq) (fun _ i _ => n.kids.length - (intOf i).toNat)
    case atStart => exact ⟨0, L, Nat.zero_le _, rfl, rfl, hL1, hL2, Lib.hid rfl, HBw.out⟩
    case round =>
     clear hb p2 f2
     obtain ⟨k2, L2, hk2, rfl, rfl, hM1, hM2, HK, hb⟩ := hrel
     obtain ⟨p2, f2⟩ := blk (heap_below hb HB1.out)
     by_cases hlt : k2 < n.kids.length ∧ 0 ≤ L2
     ·obtain ⟨hlt, hL20⟩ := hlt
      obtain ⟨x, hl, hd⟩ := getOf n.kids k2 hlt
      obtain ⟨b, o, xa, xc, ya, yc, h', rfl, rfl, hA⟩ := HX.out k2 x hl
      have hbw : Below w.heap.size w wr := hB.trans (hb.mono hs1)
      have hsx := Nod.sanes_mem HS.out.2 (List.mem_of_getElem? hl)
      have HE2 := Lib.hid (HK.out.trans (weighK_step hd hL20))
      have g1 := weighN_ge x L2 hL20 hsx
      have g2 := weighN_le x L2
      have HW : Hid (∀ W, Below w.heap.size w W → Calls Tryz.prog 37 #[nodV x (.slice xa x.attrs.length xc) (.slice ya x.kids.length yc), .int .i64 L2] W fun e w' => e = .returned (.int .i64 (weighN x L2)) ∧ Below W.heap.size W w') :=
       Lib.hid fun W hW => HI.out h' rfl x _ _ L2 W S (hA.below hW).attrsR (hA.below hW).kidsR hL20 hM1 hsx
      obtain ⟨_, c0, c1, c2, c3, _, _⟩ := hA.below hbw
      have hbs := hb.size
      clear hA hd hl HK hsx
      go_wp2_with (go_at_call 37; refine (HW.out _ (by go_grown)).mono ?_; rintro e w2 ⟨rfl, hb2⟩)
      all_goals
       go_roundw
       case rel => exact ⟨k2 + 1, weighN x L2, hlt, by go_num, rfl, by omega, by omega, HE2, below_from hb hb2⟩
       case measure => simp [intOf]; omega
     ·have hor : (k2 < n.kids.length ∧ L2 < 0) ∨ k2 = n.kids.length := by omega
      have HF : Hid (weighN n l = L2) := Lib.hid (by
       rw [HW0.out, HEnd.out, HK.out]
       rcases hor with ⟨_, h2⟩ | rfl
       ·exact weighK_neg h2
       ·rw [List.drop_length, weighK])
      have HB := Lib.hid (hB.trans (hb.mono hB.size))
      clear HK hlt hb
      rcases hor with ⟨h1, h2⟩ | rfl
      all_goals
       go_wp2_with fail
       go_ret
       exact ⟨by rw [HF.out]; rfl, HB.out⟩
theorem weigh_all : ∀ h, WeighAt h
 | 0 => weigh_step 0 (fun _ e => by cases e)
 | h + 1 => weigh_step (h + 1) (fun h' e => by cases e; exact weigh_all h)
end Go.Proofs.YtjpgffihafknlaaGreatDoor
namespace Go.Proofs.Qw
open Go.RowKit
theorem celN_le (n : Nod) : cellsN n ≤ capM n := by
 refine Nod.rec (motive_1 := fun n => cellsN n ≤ capM n) (motive_2 := fun ks => cellsK ks ≤ capMs ks) ?_ ?_ ?_ n
 ·intro t ats x ks ih
  rw [cellsN, capM]
  have h3 : (runesB ⟨x.toArray⟩).length ≤ x.length := by
   have := runesGo_len ⟨x.toArray⟩ x.length 0
   show (runesGo ⟨x.toArray⟩ (⟨x.toArray⟩ : ByteArray).size 0).length ≤ x.length
   have e : (⟨x.toArray⟩ : ByteArray).size = x.length := by simp [ByteArray.size]
   rw [e]
   simpa using this
  have h4 : ((runesB ⟨x.toArray⟩).filterMap flatC).length ≤ (runesB ⟨x.toArray⟩).length := List.length_filterMap_le _ _
  split
  ·omega
  ·split
   ·omega
   ·omega
 ·rw [cellsK, capMs]; exact Nat.le_refl _
 ·intro k ks h1 h2
  rw [cellsK, capMs]
  omega
theorem cellsK_app (l m : List Nod) : cellsK (l ++ m) = cellsK l + cellsK m := by
 induction l with
 | nil => simp [cellsK]
 | cons k l ih => rw [List.cons_append, cellsK, cellsK, ih]; omega
theorem cellsK_take {l : List Nod} {k : Nat} {x : Nod} (h : l[k]? = some x) : cellsK (l.take (k + 1)) = cellsK (l.take k) + cellsN x := by
 rw [take_some h, cellsK_app]
 simp [cellsK]
theorem cellsK_le (l : List Nod) (k : Nat) : cellsK (l.take k) ≤ cellsK l := by
 conv => rhs; rw [← List.take_append_drop k l]
 rw [cellsK_app]
 omega
theorem cellsK_cap : ∀ l : List Nod, cellsK l ≤ capMs l
 | [] => by rw [cellsK, capMs]; exact Nat.le_refl _
 | k :: l => by have := celN_le k; have := cellsK_cap l; rw [cellsK, capMs]; omega
theorem celT_text {n : Nod} (h : tagC n.tag = 1) : cellsN n = (flatR (runesB ⟨n.text.toArray⟩)).length := by
 obtain ⟨t, a, x, k⟩ := n
 have h : tagC t = 1 := h
 rw [cellsN, if_pos h]
 rfl
theorem celT_void {n : Nod} (h : tagC n.tag = 5) : cellsN n = 1 := by
 obtain ⟨t, a, x, k⟩ := n
 have h : tagC t = 5 := h
 rw [cellsN, if_neg (by rw [h]; decide), if_pos h]
theorem celT_kids {n : Nod} (h1 : tagC n.tag ≠ 1) (h5 : tagC n.tag ≠ 5) : cellsN n = cellsK n.kids := by
 obtain ⟨t, a, x, k⟩ := n
 have h1 : ¬ tagC t = 1 := h1
 have h5 : ¬ tagC t = 5 := h5
 rw [cellsN, if_neg h1, if_neg h5]
 rfl
end Go.Proofs.Qw
namespace Go.Proofs.YtjpgffihafknlaaGreatDoor
open Go.RowKit
open Go.Proofs.Qw
attribute [local go_sem ↓] Go.wp_at_zero Go.wp_at_succ
def CllAt (h : Nat) : Prop := ∀ (n : Nod) (a k : Value) (w : World) (S : Nat → Prop), AttsR false w S a n.attrs → NodsR false h w S k n.kids → capM n ≤ 10000000 →
  Calls Tryz.prog 25 #[nodV n a k] w fun e w' => e = .returned (.int .i64 (cellsN n)) ∧ Below w.heap.size w w'
set_option maxRecDepth 100000 in
set_option maxHeartbeats 2000000 in
theorem cll_step (h : Nat) (ih : ∀ h', h = h' + 1 → CllAt h') : CllAt h := by
 intro n a kv w S hA hK hn
 obtain ⟨la, lc, rfl⟩ := hA.slice
 obtain ⟨ka, kc, rfl, hc, hm, hx⟩ := nods_shape hK
 have HX := Lib.hid hx
 have HI := Lib.hid ih
 have hcp := cap_parts n
 have HN : Hid (capMs n.kids ≤ 10000000) := Lib.hid (by omega)
 have htx : n.text.length ≤ 10000000 := by omega
 have HC : Hid (∀ W, Calls Tryz.prog 17 #[.int .i64 n.tag] W fun e w' => e = .returned (.int .i64 (tagC n.tag)) ∧ Below W.heap.size W w') := Lib.hid fun W => tagsClass_any n.tag W
 have HF : Hid (∀ W, Calls Tryz.prog 52 #[.string ⟨n.text.toArray⟩] W fun e w' => ∃ a c, e = .returned (.slice a (flatR (runesB ⟨n.text.toArray⟩)).length c) ∧ Below W.heap.size W w') := Lib.hid fun W => (flat_any ⟨n.text.toArray⟩ W (by rw [show (⟨n.text.toArray⟩ : ByteArray).size = n.text.length by simp [ByteArray.size]]; exact htx)).mono fun _ _ ⟨v, h1, h2, h3⟩ => by
  obtain ⟨a, c, rfl⟩ := h2.slice
  exact ⟨a, c, h1, h3⟩
 have hcv : (tagC n.tag = 1 ∧ cellsN n = (flatR (runesB ⟨n.text.toArray⟩)).length) ∨ (tagC n.tag = 5 ∧ cellsN n = 1) ∨ (tagC n.tag ≠ 1 ∧ tagC n.tag ≠ 5 ∧ cellsN n = cellsK n.kids) := by
  by_cases h1 : tagC n.tag = 1
  ·exact .inl ⟨h1, celT_text h1⟩
  by_cases h5 : tagC n.tag = 5
  ·exact .inr (.inl ⟨h5, celT_void h5⟩)
  ·exact .inr (.inr ⟨h1, h5, celT_kids h1 h5⟩)
 clear hA hK hx ih hn hcp
 unfold maxLen at hm
 obtain ⟨W1, hW1, hB, hz, hB1⟩ := one_node w (.int .i64 n.tag) (.slice la n.attrs.length lc) (.string ⟨n.text.toArray⟩) (.slice ka n.kids.length kc)
 have HZ := Lib.hid hz
 have HB := Lib.hid hB
 clear hz
 obtain ⟨p1, f1⟩ := blk hB1
 have HB1 := Lib.hid hB1
 generalize hr : cellsN n = r at *
 generalize hl : (flatR (runesB ⟨n.text.toArray⟩)).length = fl at *
 generalize tagC n.tag = c at *
 clear hl hB1
 go_enter Tryz.func25, Tryz.ntmps25
 rcases hcv with ⟨rfl, rfl⟩ | ⟨rfl, rfl⟩ | ⟨hn1, hn5, rfl⟩
 ·go_wp2_with (first
   | (go_at_call 17; refine (HC.out _).mono ?_; rintro e w2 ⟨rfl, hb2⟩; obtain ⟨p2, f2⟩ := blk (heap_below hb2 HB1.out))
   | (go_at_call 52; refine (HF.out _).mono ?_; rintro e w3 ⟨fa, fc, rfl, hb3⟩))
  go_ret
  exact ⟨rfl, below_from HB.out (below_from hb2 hb3)⟩
 ·go_wp2_with (first
   | (go_at_call 17; refine (HC.out _).mono ?_; rintro e w2 ⟨rfl, hb2⟩; obtain ⟨p2, f2⟩ := blk (heap_below hb2 HB1.out)))
  go_ret
  exact ⟨rfl, below_from HB.out hb2⟩
 ·have b1 : (c == 1) = false := by simpa using hn1
  have b5 : (c == 5) = false := by simpa using hn5
  clear hn1 hn5
  go_wp2_with (first
   | (go_at_call 17; refine (HC.out _).mono ?_; rintro e w2 ⟨rfl, hb2⟩; obtain ⟨p2, f2⟩ := blk (heap_below hb2 HB1.out)))
  go_loopw [3, 4] (fun m i wr => ∃ k : Nat, k ≤ n.kids.length ∧ i = .int .i64 k ∧ m = .int .i64 (cellsK (n.kids.take k)) ∧ Below W1.heap.size W1 wr) (fun _ i _ => n.kids.length - (intOf i).toNat)
  case atStart => exact ⟨0, Nat.zero_le _, rfl, by simp [cellsK], hb2⟩
  case round =>
   obtain ⟨k, hk, rfl, rfl, hb⟩ := hrel
   clear p1 f1 p2 f2
   obtain ⟨p3, f3⟩ := blk (heap_below hb HB1.out)
   have hlt1 : w.heap.size < wr.heap.size := lt_of_heap (heap_below hb HB1.out)
   by_cases hlt : k < n.kids.length
   ·obtain ⟨x, hl, hd⟩ := getOf n.kids k hlt
    obtain ⟨b, o, xa, xc, ya, yc, h', rfl, rfl, hA⟩ := HX.out k x hl
    have hs1 := HB.out.size
    have hbw : Below w.heap.size w wr := HB.out.trans (hb.mono hs1)
    have HT := Lib.hid (cellsK_take hl)
    have hle := cellsK_le n.kids (k + 1)
    have hle2 := cellsK_cap n.kids
    have hsum : cellsK (n.kids.take k) + cellsN x ≤ 10000000 := by have := HT.out; have := HN.out; omega
    have HW : Hid (∀ W, Below w.heap.size w W → Calls Tryz.prog 25 #[nodV x (.slice xa x.attrs.length xc) (.slice ya x.kids.length yc)] W fun e w' => e = .returned (.int .i64 (cellsN x)) ∧ Below W.heap.size W w') :=
     Lib.hid fun W hW => HI.out h' rfl x _ _ W S (hA.below hW).attrsR (hA.below hW).kidsR (Nat.le_trans (cap_mem (List.mem_of_getElem? hl)) HN.out)
    obtain ⟨_, c0, c1, c2, c3, _, _⟩ := hA.below hbw
    have i0 : (0 : Int) ≤ (k : Int) := Int.natCast_nonneg _
    have i1 : (k : Int) < (n.kids.length : Int) := by omega
    clear hA hd hl hle hle2
    go_wp2_with (go_at_call 25; refine (HW.out _ (by go_grown)).mono ?_; rintro e w3 ⟨rfl, hb3⟩)
    all_goals
     go_roundw
     case rel => exact ⟨k + 1, hlt, by go_num, by rw [HT.out]; go_num, below_from hb hb3⟩
     case measure => simp [intOf]; omega
   ·obtain rfl : k = n.kids.length := by omega
    go_wp2_with fail
    go_ret
    exact ⟨by rw [List.take_length]; rfl, HB.out.trans (hb.mono HB.out.size)⟩
theorem cll_all : ∀ h, CllAt h
 | 0 => cll_step 0 (fun _ e => by cases e)
 | h + 1 => cll_step (h + 1) (fun h' e => by cases e; exact cll_all h)
set_option maxHeartbeats 1000000 in
theorem heavy18_any (h : Nat) (n : Nod) (a k : Value) (w w0 : World) (S : Nat → Prop) (hA : AttsR false w0 S a n.attrs) (hK : NodsR false h w0 S k n.kids) (h0 : Below w0.heap.size w0 w) (hs : n.Sane) :
  Calls Tryz.prog 9 #[nodV n a k] w fun e w' => e = .returned (.bool (decide (weighN n 3000 < 0))) ∧ Below w.heap.size w w' := by
 have HC : Hid (∀ W, Below w0.heap.size w0 W → Calls Tryz.prog 37 #[nodV n a k, .int .i64 3000] W fun e w' => e = .returned (.int .i64 (weighN n 3000)) ∧ Below W.heap.size W w') :=
  Lib.hid fun W hW => weigh_all h n a k 3000 W S (hA.below (rdOf_stable _) hW) (hK.below (rdNod_stable _ _) hW) (by omega) (by omega) hs
 obtain ⟨la, lc, rfl⟩ := hA.slice
 obtain ⟨ka, kc, rfl⟩ := hK.slice
 obtain ⟨W1, hW1, hB, hz, hB1⟩ := one_node w (.int .i64 n.tag) (.slice la n.attrs.length lc) (.string ⟨n.text.toArray⟩) (.slice ka n.kids.length kc)
 have HB := Lib.hid hB
 have hw := below_from h0 hB
 obtain ⟨p1, f1⟩ := blk hB1
 clear hA hK hs hz hB1
 unfold nodV at *
 generalize weighN n 3000 = q at *
 go_enter Tryz.func9, Tryz.ntmps9
 go_wp2_with (go_at_call 37; refine (HC.out _ hw).mono ?_; rintro e w2 ⟨rfl, hb2⟩)
 go_ret
 exact ⟨rfl, below_from HB.out hb2⟩
end Go.Proofs.YtjpgffihafknlaaGreatDoor
namespace Go.Proofs.Qw
open Go.RowKit
def LinOk (l : Lin) : Prop := 0 ≤ l.quote ∧ l.quote ≤ 6 ∧ l.lists.length ≤ 6 ∧ 0 ≤ l.kind ∧ l.kind ≤ 3 ∧ (l.lists = [] ∨ l.kind = 0) ∧ (∀ k ∈ l.lists, k = 0 ∨ k = 1) ∧ ∀ c ∈ l.cells, CelOk c
end Go.Proofs.Qw
namespace Go.Proofs.Qw
open Go.RowKit
theorem ok_of_may {d : List Lin} (h : mayD d = true) : d ≠ [] ∧ ∀ l ∈ d, LinOk l := by
 unfold mayD at h
 simp only [Bool.and_eq_true, decide_eq_true_eq, List.all_eq_true] at h
 obtain ⟨⟨⟨h1, _⟩, _⟩, h2⟩ := h
 refine ⟨by rintro rfl; simp at h1, fun l hl => ?_⟩
 have := h2 l hl
 unfold mayL mayCs at this
 simp only [Bool.and_eq_true, Bool.or_eq_true, decide_eq_true_eq, List.all_eq_true] at this
 obtain ⟨⟨⟨⟨⟨⟨⟨g1, g2⟩, g3⟩, g4⟩, g5⟩, g6⟩, g7⟩, g8⟩ := this
 refine ⟨g1, g2, g3, g4, g5, g6, g7, fun c hc => ?_⟩
 have := g8 c hc
 unfold mayC linkF at this
 simp only [Bool.and_eq_true, Bool.or_eq_true, decide_eq_true_eq] at this
 exact ⟨this.1.1.1, this.1.1.2, this.1.2, this.2⟩
end Go.Proofs.Qw
namespace Go.Proofs.Qw
open Go.RowKit
theorem may_iffV {d : Doc} (h : mayD d = true) : d.length ≤ 200 ∧ sizeD d ≤ 4000 := by
 unfold mayD at h
 simp only [Bool.and_eq_true, decide_eq_true_eq] at h
 exact ⟨h.1.1.2, h.1.2⟩
theorem may_smallV {d : Doc} (h : mayD d = true) : Small d := by
 obtain ⟨h2, h3⟩ := may_iffV h
 refine ⟨by omega, by omega, fun l hl c hc => ?_⟩
 obtain ⟨_, _, _, _, _, _, _, h8⟩ := (ok_of_may h).2 l hl
 rcases (h8 c hc).2.2.2 with e | e
 ·rw [e]; simp
 ·unfold targetF valueF valueB at e
  simp only [Bool.and_eq_true, decide_eq_true_eq] at e
  have h5 := e.1.2.1
  have : (⟨c.href.toArray⟩ : ByteArray).size = c.href.length := by show c.href.toArray.size = _; simp
  omega
end Go.Proofs.Qw
namespace Go.Proofs.YtjpgffihafknlaaGreatDoor
open Go.RowKit
open Go.Proofs.Qw
set_option maxHeartbeats 400000 in
theorem words_any (s : ByteArray) (w : World) (he : Env w) (hs : s.size ≤ 100000) :
  Calls Tryz.prog 152 #[.string s] w fun e w' => e = .returned (.tuple #[.int .i64 (words s.data.toList).1, .bool (words s.data.toList).2]) ∧ Below w.heap.size w w' := by
 go_enter Tryz.func152, Tryz.ntmps152
 go_wp2_with (go_at_call 174; refine (Tryz.strings_Split_shaped s ⟨#[32]⟩ w he (by omega) (Nat.le_refl 1)).mono ?_; rintro e w' ⟨rfl, rfl⟩)
 have hlen := splitB_len 32 s
 have hc := countB_small 32 s
 have hW : words s.data.toList = wordsGo 0 false ((Lib.splitB ⟨#[32]⟩ 0 (Lib.countB s ⟨#[32]⟩) s).map (·.data.toList)) := by rw [splitB_one]; rfl
 generalize Lib.splitB ⟨#[32]⟩ 0 (Lib.countB s ⟨#[32]⟩) s = xs at *
 generalize Lib.countB s ⟨#[32]⟩ = n at *
 have HL := Lib.hid hlen
 have HW := Lib.hid hW
 clear hlen hW
 have HC : Hid (∀ k x, xs[k]? = some x → (w.alloc (Obj.cells (List.map Value.string xs).toArray 9)).cell? ⟨w.heap.size, k, none⟩ = some (.string x)) := Lib.hid fun k x hx => by
  rw [cell_new]; simp [hx]
 go_loop [4, 5, 11] (fun b s i => ∃ (k : Nat) (bb : Int) (ss : Bool), k ≤ n + 1 ∧ i = .int .i64 k ∧ b = .int .i64 bb ∧ s = .bool ss ∧ wordsGo 0 false (xs.map (·.data.toList)) = wordsGo bb ss ((xs.drop k).map (·.data.toList))) (fun _ _ i => n + 1 - (intOf i).toNat)
 case atStart => exact ⟨0, 0, false, by omega, rfl, rfl, rfl, rfl⟩
 case round =>
  obtain ⟨k, bb, ss, hk, rfl, rfl, rfl, hg⟩ := hrel
  have HG := Lib.hid hg
  clear hg
  by_cases hlt : k < n + 1
  ·obtain ⟨x, hx, hd⟩ := getOf xs k (by rw [HL.out]; exact hlt)
   have hx := HC.out k x hx
   have HD := Lib.hid hd
   clear hd
   go_wp2
   ·go_round
    case rel => exact ⟨k + 1, _, _, by omega, by go_num, rfl, rfl, by rw [HG.out, HD.out, List.map_cons, wordsGo1 (eq_of_beq ‹_›)]⟩
    case measure => simp [intOf]; omega
   ·go_round
    case rel => exact ⟨k + 1, _, _, by omega, by go_num, rfl, rfl, by rw [HG.out, HD.out, List.map_cons, wordsGo2 (ne_of_beq ‹(x.toList == [117, 110, 100, 101, 114, 108, 105, 110, 101]) = false›) (eq_of_beq ‹_›)]⟩
    case measure => simp [intOf]; omega
   ·go_round
    case rel => exact ⟨k + 1, _, _, by omega, by go_num, rfl, rfl, by rw [HG.out, HD.out, List.map_cons, wordsGo3 (ne_of_beq ‹(x.toList == [117, 110, 100, 101, 114, 108, 105, 110, 101]) = false›) (ne_of_beq ‹(x.toList == [108, 105, 110, 101, 45, 116, 104, 114, 111, 117, 103, 104]) = false›) (nil_of_empty ‹_›)]⟩
    case measure => simp [intOf]; omega
   ·go_ret2
    refine ⟨?_, (Below.refl _ _).alloc (Nat.le_refl _) _⟩
    rw [HW.out, HG.out, HD.out, List.map_cons, wordsGo4 (ne_of_beq ‹(x.toList == [117, 110, 100, 101, 114, 108, 105, 110, 101]) = false›) (ne_of_beq ‹(x.toList == [108, 105, 110, 101, 45, 116, 104, 114, 111, 117, 103, 104]) = false›) (ne_of_empty ‹_›)]
    rfl
  ·obtain rfl : k = n + 1 := by omega
   rw [List.drop_eq_nil_of_le (by rw [HL.out]; exact Nat.le_refl _)] at HG
   go_wp2
   go_ret2
   refine ⟨?_, (Below.refl _ _).alloc (Nat.le_refl _) _⟩
   rw [HW.out, HG.out]
   rfl
set_option maxHeartbeats 400000 in
theorem low_any (s : ByteArray) (w : World) (hs : s.size ≤ 100000) :
  Calls Tryz.prog 175 #[.string s] w fun e w' => e = .returned (.string ⟨(low s.data.toList).toArray⟩) ∧ Below w.heap.size w w' := by
 obtain ⟨c, w1, hcv, hb1, hz1, hr1, hc1⟩ := bytes_of w s
 have HR := Lib.hid hr1
 have HB := Lib.hid hb1
 have hl : s.data.toList.length = s.size := Array.length_toList
 have HS := Lib.hid hl
 clear hr1 hb1 hl
 generalize s.data.toList = l at *
 go_enter Tryz.func175, Tryz.ntmps175
 go_wp2_with fail
 clear hcv
 go_loopw [4, 5, 10] (fun _ _ i wr => ∃ k : Nat, k ≤ s.size ∧ i = .int .i64 k ∧ RowAt wr w.heap.size 0 (bv (low (l.take k) ++ l.drop k)) ∧ Below w.heap.size w wr) (fun _ _ i _ => s.size - (intOf i).toNat)
 case atStart => exact ⟨0, by omega, rfl, HR.out, HB.out⟩
 case round =>
  obtain ⟨k, hk, rfl, hr, hb⟩ := hrel
  by_cases hlt : k < s.size
  ·obtain ⟨b, hx, hd⟩ := getOf l k (by rw [HS.out]; exact hlt)
   have hp : (low (l.take k) ++ l.drop k)[k]? = some b := by
    rw [List.getElem?_append_right (by simp [low]; omega)]
    simp [low, hx, Nat.min_eq_left (show k ≤ l.length by rw [HS.out]; omega)]
   obtain ⟨hc, hf⟩ := hr k _ (bv_get hp)
   rw [Nat.zero_add] at hc hf
   have HX := Lib.hid hx
   have HP := Lib.hid hp
   clear hx hp hd
   go_wp2
   ·go_roundw
    case rel =>
     refine ⟨k + 1, by omega, by go_num, ?_, hb.setCell (Nat.le_refl _) _⟩
     rw [← low_step HX.out, ← bv_set, ← lowc_yes ‹_› ‹_›]
     have := hr.set (i := k) (by rw [bv_length]; exact (List.getElem?_eq_some_iff.1 HP.out).1) (.int .u8 ((b.toNat : Int) + 32))
     rwa [Nat.zero_add] at this
    case measure => simp [intOf]; omega
   ·go_roundw
    case rel => exact ⟨k + 1, by omega, by go_num, by rw [← low_keep HX.out (lowc_no (by omega))]; exact hr, hb⟩
    case measure => simp [intOf]; omega
   ·go_roundw
    case rel => exact ⟨k + 1, by omega, by go_num, by rw [← low_keep HX.out (lowc_no (by omega))]; exact hr, hb⟩
    case measure => simp [intOf]; omega
  ·obtain rfl : k = s.size := by omega
   have e : low (l.take s.size) ++ l.drop s.size = low l := by rw [List.take_of_length_le (by rw [HS.out]; exact Nat.le_refl _), List.drop_eq_nil_of_le (by rw [HS.out]; exact Nat.le_refl _), List.append_nil]
   rw [e] at hr
   have hst := string_of (c := c) hr
   rw [low_length, HS.out] at hst
   clear e
   go_wp2
   go_ret
   exact ⟨rfl, hb⟩
attribute [local go_sem] Oper.semAt_some
abbrev Decl := { x : List UInt8 × List UInt8 // x.1.length ≤ 100000 ∧ x.2.length ≤ 100000 }
abbrev declEnc (x : Decl) : Array Value := #[.string ⟨x.1.1.toArray⟩, .string ⟨x.1.2.toArray⟩]
set_option maxRecDepth 200000 in
set_option maxHeartbeats 4000000 in
theorem decl1_in (n l Bs base : Nat) (s : ByteArray) (hs : s.size ≤ 100000) (J Jx : List Decl → World → Prop) (w0 W : World) (he : Env w0) (hb0 : Below w0.heap.size w0 W) (hJ : AbidesFrom W.heap.size J) (hbase : base ≤ W.heap.size)
  (hY : ∀ (pre : List Decl) (x : Decl) W, J pre W → pre.length < 200000 → YieldAt Fence.wide (n - 1) Tryz.prog l (declEnc x) W fun e W' =>
   (e = .returned (.bool true) ∧ J (pre ++ [x]) W' ∧ Kp w0.heap.size base W W') ∨ (e = .returned (.bool false) ∧ Jx (pre ++ [x]) W'))
  (hBs : W.cell? ⟨Bs, 0, none⟩ = some (.string s)) (h0 : J [] W) :
  CallsIn Fence.wide n Tryz.prog 173 #[.func (.yield l) #[] #[], .pointer (some ⟨Bs, 0, none⟩)] W fun e W' => (∃ v, e = .returned v) ∧
   ((∃ ys : List Decl, ys.map (·.1) = decls s.data.toList ∧ J ys W') ∨ (∃ pre, True ∧ Jx pre W')) := by
 refine callsIn_of_wp Tryz.func173 rfl trivial ?_ rfl
 simp only [Tryz.ntmps173, List.size_toArray, List.length_cons, List.length_nil, Nat.reduceAdd, Nat.reduceSub, Array.replicate_succ, Array.replicate_zero, List.push_toArray, List.append_toArray, List.nil_append, List.cons_append]
 have hwf : ∀ f, Fence.wide.fn f := fun _ => trivial
 have hwd : Fence.wide.depth = none := rfl
 have heW := he.below hb0
 gi_wp2_with (gi_at_call 174; refine (callsIn_wide.2 (Tryz.strings_Split_shaped s ⟨#[59]⟩ W heW (by omega) (Nat.le_refl 1))).mono ?_; rintro e w' ⟨rfl, rfl⟩)
 have hlen := splitB_len 59 s
 have hc := countB_small 59 s
 have hW : decls s.data.toList = ((Lib.splitB ⟨#[59]⟩ 0 (Lib.countB s ⟨#[59]⟩) s).map (·.data.toList)).filterMap declOf := by rw [splitB_one]; rfl
 have hle : ∀ (k : Nat) (x : ByteArray), (Lib.splitB ⟨#[59]⟩ 0 (Lib.countB s ⟨#[59]⟩) s)[k]? = some x → x.size ≤ 100000 := fun k x hx => by
  have h1 : x.data.toList ∈ splitL 59 s.data.toList := by
   rw [← splitB_one]
   exact List.mem_map.2 ⟨x, List.mem_of_getElem? hx, rfl⟩
  have := splitL_le _ _ _ h1
  simp only [Array.length_toList] at this
  exact Nat.le_trans this hs
 generalize Lib.splitB ⟨#[59]⟩ 0 (Lib.countB s ⟨#[59]⟩) s = xs at *
 generalize Lib.countB s ⟨#[59]⟩ = m at *
 have HL := Lib.hid hlen
 have HW := Lib.hid hW
 have HE := Lib.hid hle
 clear hlen hW hle
 have HB : Hid (Below W.heap.size W (W.alloc (Obj.cells (List.map Value.string xs).toArray 9))) := Lib.hid ((Below.refl _ _).alloc (Nat.le_refl _) _)
 have HC : Hid ((W.alloc (Obj.cells (List.map Value.string xs).toArray 9)).heap[W.heap.size]? = some (Obj.cells (List.map Value.string xs).toArray 9)) := Lib.hid (World.alloc_heap_new _ _)
 have HJ0 : Hid (J [] (W.alloc (Obj.cells (List.map Value.string xs).toArray 9))) := Lib.hid (abides_below hJ h0 HB.out)
 have HJA := Lib.hid hJ
 clear hJ h0 heW hBs
 generalize W.alloc (Obj.cells (List.map Value.string xs).toArray 9) = W1 at *
 gi_loopw [11] (fun i wr => ∃ (k : Nat) (pre : List Decl), k ≤ m + 1 ∧ pre.length ≤ k ∧ i = .int .i64 k ∧ pre.map (·.1) = ((xs.take k).map (·.data.toList)).filterMap declOf ∧ J pre wr ∧ Below w0.heap.size w0 wr ∧ W.heap.size < wr.heap.size ∧ wr.heap[W.heap.size]? = some (Obj.cells (List.map Value.string xs).toArray 9))
  (fun i _ => m + 1 - (intOf i).toNat)
 case atStart => exact ⟨0, [], by omega, Nat.le_refl _, rfl, rfl, HJ0.out, hb0.trans (HB.out.mono hb0.size), (Array.getElem?_eq_some_iff.1 HC.out).1, HC.out⟩
 case round =>
  obtain ⟨k, pre, hk, hpl, rfl, hpre, hJs, hb1, hz1, hh1⟩ := hrel
  have HP := Lib.hid hpre
  have HH := Lib.hid hh1
  clear hpre hh1
  by_cases hlt : k < m + 1
  ·obtain ⟨x, hx, hd⟩ := getOf xs k (by rw [HL.out]; exact hlt)
   have hxc : wr.cell? ⟨W.heap.size, k, none⟩ = some (.string x) := by rw [cell_of_heap HH.out]; simp [hx]
   have hxs := HE.out k x hx
   have HX := Lib.hid hx
   clear hd hx
   have her := he.below hb1
   gi_wp2_with fail
   refine (callsIn_wide.2 (Tryz.strings_Cut_shaped x ⟨#[58]⟩ wr her (by omega))).mono ?_
   rintro e w' ⟨rfl, nd, rfl⟩
   have hwb : Below wr.heap.size wr (wr.drewN nd) := ⟨rfl, rfl, rfl, Nat.le_refl _, fun _ _ => rfl⟩
   have hD : declOf x.data.toList = if (Lib.cut x.data.toList [58]).2.2 = true then some (low (Lib.trimB (Lib.cut x.data.toList [58]).1 32), low (Lib.trimB (Lib.cut x.data.toList [58]).2.1 32)) else none := rfl
   have hcl : (Lib.cut x.data.toList [58]).1.length ≤ 100000 ∧ (Lib.cut x.data.toList [58]).2.1.length ≤ 100000 := by
    have := cut_le x.data.toList
    have h2 : x.data.toList.length = x.size := Array.length_toList
    omega
   generalize wr.drewN nd = w2 at *
   generalize Lib.cut x.data.toList [58] = ct at *
   obtain ⟨nm, vl, ok⟩ := ct
   have HD := Lib.hid hD
   have HWB := Lib.hid hwb
   clear hD hwb
   have HW2 : Hid (Below w0.heap.size w0 w2) := Lib.hid (below_from hb1 HWB.out)
   have hJ2 := abides_below (X := wr) (Y := w2) HJA.out hJs HWB.out
   have hh2 : Hid (w2.heap[W.heap.size]? = some (Obj.cells (List.map Value.string xs).toArray 9)) := Lib.hid ((HWB.out.block _ hz1).trans HH.out)
   have hz2 : W.heap.size < w2.heap.size := Nat.lt_of_lt_of_le hz1 HWB.out.size
   cases ok
   ·gi_wp2_with fail
    go_roundw
    case rel => exact ⟨k + 1, pre, by omega, by omega, by go_num, by rw [fm_none HX.out (HD.out.trans (if_neg (by simp)))]; exact HP.out, hJ2, HW2.out, hz2, hh2.out⟩
    case measure => simp [intOf]; omega
   ·gi_wp2_with fail
    refine (callsIn_wide.2 (Tryz.strings_Trim_one ⟨nm.toArray⟩ 32 (by decide) w2 (by simp [ByteArray.size]; omega))).mono ?_
    rintro e w3 ⟨rfl, h3⟩
    have hb3 := Lib.hid (below_or h3)
    clear h3
    gi_wp2_with fail
    refine (callsIn_wide.2 (low_any ⟨(Lib.trimB nm 32).toArray⟩ w3 ?hs3)).mono ?_
    case hs3 => have := trimB_le nm 32; simp [ByteArray.size]; omega
    rintro e w4 ⟨rfl, hb4⟩
    have HB4 := Lib.hid hb4
    clear hb4
    gi_wp2_with fail
    refine (callsIn_wide.2 (Tryz.strings_Trim_one ⟨vl.toArray⟩ 32 (by decide) w4 (by simp [ByteArray.size]; omega))).mono ?_
    rintro e w5 ⟨rfl, h5⟩
    have hb5 := Lib.hid (below_or h5)
    clear h5
    gi_wp2_with fail
    refine (callsIn_wide.2 (low_any ⟨(Lib.trimB vl 32).toArray⟩ w5 ?hs5)).mono ?_
    case hs5 => have := trimB_le vl 32; simp [ByteArray.size]; omega
    rintro e w6 ⟨rfl, hb6⟩
    have HB6 := Lib.hid hb6
    clear hb6
    have hb26 : Hid (Below w2.heap.size w2 w6) := Lib.hid (below_from hb3.out (below_from HB4.out (below_from hb5.out HB6.out)))
    have HW6 : Hid (Below w0.heap.size w0 w6) := Lib.hid (below_from HW2.out hb26.out)
    have hJ6 := abides_below HJA.out hJ2 hb26.out
    have hh6 : Hid (w6.heap[W.heap.size]? = some (Obj.cells (List.map Value.string xs).toArray 9)) := Lib.hid ((hb26.out.block _ hz2).trans hh2.out)
    have hz6 : W.heap.size < w6.heap.size := Nat.lt_of_lt_of_le hz2 hb26.out.size
    obtain ⟨fn, tmps, assign, body, hy, hR⟩ := hY pre ⟨(low (Lib.trimB nm 32), low (Lib.trimB vl 32)), by have := trimB_le vl 32; have := trimB_le nm 32; rw [low_length, low_length]; omega⟩ w6 hJ6 (by omega)
    dsimp only [declEnc] at hy
    gi_wp2_with fail
    refine hR.mono ?_
    rintro e w7 (⟨rfl, hJ7, hk7⟩ | ⟨rfl, hJx7⟩)
    ·gi_wp2_with fail
     go_roundw
     case rel => exact ⟨k + 1, _, by omega, by simp; omega, by go_num, by rw [fm_some HX.out (HD.out.trans (if_pos trivial)), List.map_append, HP.out]; rfl, hJ7, HW6.out.trans hk7.below, Nat.lt_of_lt_of_le hz6 hk7.below.size, hk7.cells _ _ hbase hh6.out rfl⟩
     case measure => simp [intOf]; omega
    ·gi_wp2_with fail
     refine bodyPost_ret (results_none rfl _ _ _) rfl ?_
     exact ⟨⟨_, rfl⟩, .inr ⟨_, trivial, hJx7⟩⟩
  ·obtain rfl : k = m + 1 := by omega
   gi_wp2
   go_end0
   exact ⟨⟨_, rfl⟩, .inl ⟨pre, by rw [HP.out, HW.out, List.take_of_length_le (by rw [HL.out]; exact Nat.le_refl _)], hJs⟩⟩
end Go.Proofs.YtjpgffihafknlaaGreatDoor
namespace Go.Proofs.YtjpgffihafknlaaGreatDoor
open Go.RowKit
open Go.Proofs.Qw
attribute [local go_sem] Oper.semAt_some
set_option maxHeartbeats 400000 in
theorem say_any (a b : Int) (B C : Nat) (x y : Int) (w : World) (h1 : w.cell? ⟨B, 0, none⟩ = some (.int .i64 x)) (h2 : w.cell? ⟨C, 0, none⟩ = some (.int .i64 y)) (f1 : w.frozen? ⟨B, 0, none⟩ = false) (f2 : w.frozen? ⟨C, 0, none⟩ = false) (hn : B < C) :
  Calls Tryz.prog 150 #[.int .i64 a, .int .i64 b, .pointer (some ⟨B, 0, none⟩), .pointer (some ⟨C, 0, none⟩)] w fun e w' => e = .returned (.tuple #[]) ∧
   w' = ((w.setCell ⟨B, 0, none⟩ (.int .i64 (cssSay (x, y) a b).1)).setCell ⟨C, 0, none⟩ (.int .i64 (cssSay (x, y) a b).2)).drew := by
 go_enter Tryz.func150, Tryz.ntmps150
 go_wp2
 go_region
 all_goals (go_end0; exact ⟨rfl, rfl⟩)
set_option maxHeartbeats 400000 in
theorem declarations_any (s : ByteArray) (w : World) :
  Calls Tryz.prog 151 #[.string s] w fun e w' => e = .returned (.func (.func 173) #[] #[.pointer (some ⟨w.heap.size, 0, none⟩)]) ∧ w' = w.alloc (.cells #[.string s] 9) := by
 go_enter Tryz.func151, Tryz.ntmps151
 go_wp2
 go_ret
 exact ⟨rfl, rfl⟩
def sayFn (b : Nat) : Value := .func (.func 150) #[] #[.pointer (some ⟨b, 0, none⟩), .pointer (some ⟨b + 1, 0, none⟩)]
def PI (w : World) (pre : List Decl) (W : World) : Prop :=
 Boxed W w.heap.size 3 (.int .i64 ((pre.map (·.1)).foldl cssStep (0, 0)).1) ∧ Boxed W (w.heap.size + 1) 3 (.int .i64 ((pre.map (·.1)).foldl cssStep (0, 0)).2) ∧
  Boxed W (w.heap.size + 2) 171 (sayFn w.heap.size) ∧ Below w.heap.size w W ∧ w.heap.size + 4 ≤ W.heap.size
theorem pi_own {w : World} {B : Nat} (hB : w.heap.size ≤ B) : OwnFrom B (PI w) :=
 OwnFrom.and (Own.from (boxed_own _ _ (fun pre : List Decl => .int .i64 ((pre.map (·.1)).foldl cssStep (0, 0)).1)) _) (OwnFrom.and (Own.from (boxed_own _ _ (fun pre : List Decl => .int .i64 ((pre.map (·.1)).foldl cssStep (0, 0)).2)) _) (OwnFrom.and (Own.from (boxed_own _ _ (fun _ => sayFn w.heap.size)) _) (OwnFrom.and (ownFrom_below (Nat.le_refl _) hB) (ownFrom_size _ _))))
theorem pi_snoc (pre : List Decl) (x : Decl) : ((pre ++ [x]).map (·.1)).foldl cssStep (0, 0) = cssStep ((pre.map (·.1)).foldl cssStep (0, 0)) x.1 := by
 simp only [List.map_append, List.map_cons, List.map_nil, List.foldl_append, List.foldl_cons, List.foldl_nil]
theorem boxes_set {w W : World} {t u : TypeId} {v0 v1 v2 : Value} {B W0s : Nat} (c0 : Boxed W B t v0) (c1 : Boxed W (B + 1) t v1) (c2 : Boxed W (B + 2) u v2) (hb : Below w.heap.size w W) (hB : w.heap.size ≤ B) (hz : B + 4 ≤ W.heap.size) (hW0 : B + 1 < W0s) (x y : Value) {W' : World}
  (hW : W' = ((W.setCell ⟨B, 0, none⟩ x).setCell ⟨B + 1, 0, none⟩ y).drew) :
  KeepsOthers W W' ∧ Kp w.heap.size W0s W W' ∧ Boxed W' B t x ∧ Boxed W' (B + 1) t y ∧ Boxed W' (B + 2) u v2 ∧ Below w.heap.size w W' ∧ B + 4 ≤ W'.heap.size := by
 subst hW
 exact ⟨((KeepsOthers.setCell _ _ _).trans (KeepsOthers.setCell _ _ _)).trans (KeepsOthers.drew _), ((Kp.setCell _ hB (by omega) _).t (Kp.setCell _ (by omega) (by omega) _)).t (Kp.of_below (by simp [World.setCell]; omega) (Below.refl _ _).drew),
  (c0.set _).other (by omega) _, (c1.other (by omega) _).set _, (c2.other (by omega) _).other (by omega) _, ((hb.setCell (p := ⟨B, 0, none⟩) hB _).setCell (p := ⟨B + 1, 0, none⟩) (by simp; omega) _).drew, by simp [World.setCell]; exact hz⟩
theorem pi_said {w W0 W : World} {pre : List Decl} {x : Decl} {on off : Int} (hI : PI w pre W) (hz0 : W0.heap.size = w.heap.size + 4)
  (hs : cssStep ((pre.map (·.1)).foldl cssStep (0, 0)) x.1 = cssSay ((pre.map (·.1)).foldl cssStep (0, 0)) on off) {W' : World}
  (hW : W' = ((W.setCell ⟨w.heap.size, 0, none⟩ (.int .i64 (cssSay ((pre.map (·.1)).foldl cssStep (0, 0)) on off).1)).setCell ⟨w.heap.size + 1, 0, none⟩ (.int .i64 (cssSay ((pre.map (·.1)).foldl cssStep (0, 0)) on off).2)).drew) :
  KeepsOthers W W' ∧ Kp w.heap.size W0.heap.size W W' ∧ PI w (pre ++ [x]) W' := by
 obtain ⟨c0, c1, c2, hb, hz⟩ := hI
 have h := boxes_set (W0s := W0.heap.size) c0 c1 c2 hb (Nat.le_refl _) hz (by omega) _ _ hW
 unfold PI
 rw [pi_snoc, hs]
 exact h
theorem PI.below {w W W' : World} {pre : List Decl} (hI : PI w pre W) (hW : Below W.heap.size W W') : PI w pre W' := by
 obtain ⟨c0, c1, c2, hb, hz⟩ := hI
 exact ⟨c0.kept (grown_of_below hW) (by simp), c1.kept (grown_of_below hW) (by simp), c2.kept (grown_of_below hW) (by simp), hb.trans (hW.mono (by omega)), Nat.le_trans hz hW.size⟩
theorem pi_kept {w W0 W W' : World} {pre : List Decl} {x : Decl} (hI : PI w pre W)
  (hs : cssStep ((pre.map (·.1)).foldl cssStep (0, 0)) x.1 = (pre.map (·.1)).foldl cssStep (0, 0)) (hW : Below W.heap.size W W') :
  KeepsOthers W W' ∧ Kp w.heap.size W0.heap.size W W' ∧ PI w (pre ++ [x]) W' := by
 have h2 := hI.below hW
 obtain ⟨_, _, _, hb, hz⟩ := hI
 refine ⟨keeps_below hW, Kp.of_below (by omega) hW, ?_⟩
 unfold PI at h2 ⊢
 rw [pi_snoc, hs]
 exact h2
theorem pi_said2 {w W0 W W2 : World} {pre : List Decl} {x : Decl} {on off : Int} (hI : PI w pre W) (hW2 : Below W.heap.size W W2) (hz0 : W0.heap.size = w.heap.size + 4)
  (hs : cssStep ((pre.map (·.1)).foldl cssStep (0, 0)) x.1 = cssSay ((pre.map (·.1)).foldl cssStep (0, 0)) on off) {W' : World}
  (hW : W' = ((W2.setCell ⟨w.heap.size, 0, none⟩ (.int .i64 (cssSay ((pre.map (·.1)).foldl cssStep (0, 0)) on off).1)).setCell ⟨w.heap.size + 1, 0, none⟩ (.int .i64 (cssSay ((pre.map (·.1)).foldl cssStep (0, 0)) on off).2)).drew) :
  KeepsOthers W W' ∧ Kp w.heap.size W0.heap.size W W' ∧ PI w (pre ++ [x]) W' := by
 have h := pi_said (hI.below hW2) hz0 hs hW
 obtain ⟨_, _, _, _, hz⟩ := hI
 exact ⟨(keeps_below hW2).trans h.1, (Kp.of_below (by omega) hW2).t h.2.1, h.2.2⟩
set_option maxRecDepth 200000 in
set_option maxHeartbeats 4000000 in
theorem parse_any (s : ByteArray) (w : World) (he : Env w) (hs : s.size ≤ 100000) :
  Calls Tryz.prog 137 #[.string s] w fun e w' => e = .returned (.tuple #[.int .i64 (cssParse s.data.toList).1, .int .i64 (cssParse s.data.toList).2]) ∧ Below w.heap.size w w' := by
 refine (callsIn_wide (n := 6)).1 ?_
 refine callsIn_of_wp_marks Tryz.func137 rfl trivial ?_ rfl
 simp only [Tryz.ntmps137, List.size_toArray, List.length_cons, List.length_nil, Nat.reduceAdd, Nat.reduceSub, Array.replicate_succ, Array.replicate_zero, List.push_toArray, List.append_toArray, List.nil_append, List.cons_append]
 have hwf : ∀ f, Fence.wide.fn f := fun _ => trivial
 have hwd : Fence.wide.depth = none := rfl
 gi_wp2_with (gi_at_call 151; refine (callsIn_wide.2 (declarations_any s _)).mono ?_; rintro e w' ⟨rfl, rfl⟩)
 have hw0 : ∃ W0 : World, ((((w.alloc (.cells #[.int .i64 0] 3)).alloc (.cells #[.int .i64 0] 3)).alloc (.cells #[.func (.func 150) #[] #[.pointer (some ⟨w.heap.size, 0, none⟩), .pointer (some ⟨w.heap.size + 1, 0, none⟩)]] 171)).alloc (.cells #[.string s] 9)) = W0 := ⟨_, rfl⟩
 obtain ⟨W0, hW0⟩ := hw0
 rw [hW0]
 have b0 : Boxed W0 w.heap.size 3 (.int .i64 0) := hW0 ▸ (((Boxed.new w _ _).alloc _).alloc _).alloc _
 have b1 : Boxed W0 (w.heap.size + 1) 3 (.int .i64 0) := hW0 ▸ ((Boxed.newAt (by simp) _ _).alloc _).alloc _
 have b2 : Boxed W0 (w.heap.size + 2) 171 (sayFn w.heap.size) := hW0 ▸ (Boxed.newAt (by simp) _ _).alloc _
 have b3 : Boxed W0 (w.heap.size + 3) 9 (.string s) := hW0 ▸ Boxed.newAt (by simp) _ _
 have hz0 : W0.heap.size = w.heap.size + 4 := by rw [← hW0]; simp
 have hb0 : Below w.heap.size w W0 := hW0 ▸ ((((Below.refl _ w).alloc (Nat.le_refl _) _).alloc (by simp) _).alloc (by simp; omega) _).alloc (by simp; omega) _
 clear hW0
 refine wpIn_rangeFunc_ownF rfl (by omega) (gf := 173) (lb := #[.pointer (some ⟨w.heap.size + 1 + 1 + 1, 0, none⟩)]) rfl trivial (enters_of Tryz.func173 (by kernel_rfl) rfl)
  (encs := declEnc) (Kp := Kp w.heap.size W0.heap.size) (S := fun ys => ys.map (·.1) = decls s.data.toList) (Sp := fun _ => True) (N := 200000) (w0 := W0) ?seq (fun h k => h.t k) (Kp.b (by omega)) (Below.refl _ _) (fun _ => rfl)
  (PI w) (fun _ _ _ => False) (pi_own (by omega)) (fun _ _ _ _ _ hs _ _ => hs) ⟨b0, b1, b2, hb0, by omega⟩ ?a1 ?assign ?body ?done ?stop
 case assign =>
  intro l x W K hK
  gi_wp2
  exact hK
 case seq =>
  intro l J Jx W hW hJ _ hY h0
  exact decl1_in 5 l (w.heap.size + 3) W0.heap.size s hs J Jx w W he (hb0.trans (hW.mono (by omega))) hJ hW.size (fun pre x W1 hj hl => hY pre x W1 hj hl) ((hW.cell (p := ⟨w.heap.size + 3, 0, none⟩) (by simp; omega)).trans b3.cell) h0
 case body =>
  rintro l pre ⟨⟨nm, vl⟩, hx1, hx2⟩ W hI _
  clear b0 b1 b2 b3
  have HI := Lib.hid hI
  obtain ⟨c0, c1, c2, hb, hz⟩ := hI
  have e0 := c0.cell
  have e1 := c1.cell
  have e2 : W.cell? ⟨w.heap.size + 1 + 1, 0, none⟩ = some (.func (.func 150) #[] #[.pointer (some ⟨w.heap.size, 0, none⟩), .pointer (some ⟨w.heap.size + 1, 0, none⟩)]) := c2.cell
  have f0 := c0.frozen
  have f1 := c1.frozen
  have hwe := he.below hb
  dsimp only at hx1 hx2
  clear c0 c1 c2 hb hb0
  obtain ⟨T, hT⟩ : ∃ T : ByteArray, (⟨nm.toArray⟩ ++ ⟨#[58]⟩ ++ ⟨vl.toArray⟩ : ByteArray) = T := ⟨_, rfl⟩
  have HT : Hid (T.data.toList = nm ++ 58 :: vl) := Lib.hid (by rw [← hT]; simp)
  have HE : Hid (∀ st, cssStep st (nm, vl) = cssStepT T.data.toList st nm vl) := Lib.hid fun st => by rw [HT.out]; rfl
  gi_wp2_with (first | (gi_at_call 150; refine (CallsIn.inRound l (callsIn_wide.2 (say_any _ _ _ _ _ _ _ (by assumption) (by assumption) (by assumption) (by assumption) (by omega)))).mono ?_; rintro e w' ⟨rfl, rfl⟩) | (gi_at_call 152; refine (CallsIn.inRound l (callsIn_wide.2 (words_any ⟨vl.toArray⟩ W hwe (by simp [ByteArray.size]; omega)))).mono ?_; rintro e w2 ⟨rfl, hb2⟩; have g0 := (hb2.cell (p := ⟨w.heap.size, 0, none⟩) (by simp; omega)).trans e0; have g1 := (hb2.cell (p := ⟨w.heap.size + 1, 0, none⟩) (by simp; omega)).trans e1; have g2 := (hb2.cell (p := ⟨w.heap.size + 1 + 1, 0, none⟩) (by simp; omega)).trans e2; have g3 := (hb2.frozen (p := ⟨w.heap.size, 0, none⟩) (by simp; omega)).trans f0; have g4 := (hb2.frozen (p := ⟨w.heap.size + 1, 0, none⟩) (by simp; omega)).trans f1; have HB2 := Lib.hid hb2; clear hb2))
  ·exact pi_said (x := ⟨(nm, vl), hx1, hx2⟩) HI.out hz0 ((HE.out _).trans (cssT1  (eq_of_beq ‹(T.toList == [102, 111, 110, 116, 45, 119, 101, 105, 103, 104, 116, 58, 98, 111, 108, 100]) = true›))) rfl
  ·exact pi_said (x := ⟨(nm, vl), hx1, hx2⟩) HI.out hz0 ((HE.out _).trans (cssT2 (ne_of_beq ‹(T.toList == [102, 111, 110, 116, 45, 119, 101, 105, 103, 104, 116, 58, 98, 111, 108, 100]) = false›) (eq_of_beq ‹(T.toList == [102, 111, 110, 116, 45, 119, 101, 105, 103, 104, 116, 58, 55, 48, 48]) = true›))) rfl
  ·exact pi_said (x := ⟨(nm, vl), hx1, hx2⟩) HI.out hz0 ((HE.out _).trans (cssT3 (ne_of_beq ‹(T.toList == [102, 111, 110, 116, 45, 119, 101, 105, 103, 104, 116, 58, 98, 111, 108, 100]) = false›) (ne_of_beq ‹(T.toList == [102, 111, 110, 116, 45, 119, 101, 105, 103, 104, 116, 58, 55, 48, 48]) = false›) (eq_of_beq ‹(T.toList == [102, 111, 110, 116, 45, 119, 101, 105, 103, 104, 116, 58, 110, 111, 114, 109, 97, 108]) = true›))) rfl
  ·exact pi_said (x := ⟨(nm, vl), hx1, hx2⟩) HI.out hz0 ((HE.out _).trans (cssT4 (ne_of_beq ‹(T.toList == [102, 111, 110, 116, 45, 119, 101, 105, 103, 104, 116, 58, 98, 111, 108, 100]) = false›) (ne_of_beq ‹(T.toList == [102, 111, 110, 116, 45, 119, 101, 105, 103, 104, 116, 58, 55, 48, 48]) = false›) (ne_of_beq ‹(T.toList == [102, 111, 110, 116, 45, 119, 101, 105, 103, 104, 116, 58, 110, 111, 114, 109, 97, 108]) = false›) (eq_of_beq ‹(T.toList == [102, 111, 110, 116, 45, 119, 101, 105, 103, 104, 116, 58, 52, 48, 48]) = true›))) rfl
  ·exact pi_said (x := ⟨(nm, vl), hx1, hx2⟩) HI.out hz0 ((HE.out _).trans (cssT5 (ne_of_beq ‹(T.toList == [102, 111, 110, 116, 45, 119, 101, 105, 103, 104, 116, 58, 98, 111, 108, 100]) = false›) (ne_of_beq ‹(T.toList == [102, 111, 110, 116, 45, 119, 101, 105, 103, 104, 116, 58, 55, 48, 48]) = false›) (ne_of_beq ‹(T.toList == [102, 111, 110, 116, 45, 119, 101, 105, 103, 104, 116, 58, 110, 111, 114, 109, 97, 108]) = false›) (ne_of_beq ‹(T.toList == [102, 111, 110, 116, 45, 119, 101, 105, 103, 104, 116, 58, 52, 48, 48]) = false›) (eq_of_beq ‹(T.toList == [102, 111, 110, 116, 45, 115, 116, 121, 108, 101, 58, 105, 116, 97, 108, 105, 99]) = true›))) rfl
  ·exact pi_said (x := ⟨(nm, vl), hx1, hx2⟩) HI.out hz0 ((HE.out _).trans (cssT6 (ne_of_beq ‹(T.toList == [102, 111, 110, 116, 45, 119, 101, 105, 103, 104, 116, 58, 98, 111, 108, 100]) = false›) (ne_of_beq ‹(T.toList == [102, 111, 110, 116, 45, 119, 101, 105, 103, 104, 116, 58, 55, 48, 48]) = false›) (ne_of_beq ‹(T.toList == [102, 111, 110, 116, 45, 119, 101, 105, 103, 104, 116, 58, 110, 111, 114, 109, 97, 108]) = false›) (ne_of_beq ‹(T.toList == [102, 111, 110, 116, 45, 119, 101, 105, 103, 104, 116, 58, 52, 48, 48]) = false›) (ne_of_beq ‹(T.toList == [102, 111, 110, 116, 45, 115, 116, 121, 108, 101, 58, 105, 116, 97, 108, 105, 99]) = false›) (eq_of_beq ‹(T.toList == [102, 111, 110, 116, 45, 115, 116, 121, 108, 101, 58, 110, 111, 114, 109, 97, 108]) = true›))) rfl
  ·exact pi_said (x := ⟨(nm, vl), hx1, hx2⟩) HI.out hz0 ((HE.out _).trans (cssT7 (ne_of_beq ‹(T.toList == [102, 111, 110, 116, 45, 119, 101, 105, 103, 104, 116, 58, 98, 111, 108, 100]) = false›) (ne_of_beq ‹(T.toList == [102, 111, 110, 116, 45, 119, 101, 105, 103, 104, 116, 58, 55, 48, 48]) = false›) (ne_of_beq ‹(T.toList == [102, 111, 110, 116, 45, 119, 101, 105, 103, 104, 116, 58, 110, 111, 114, 109, 97, 108]) = false›) (ne_of_beq ‹(T.toList == [102, 111, 110, 116, 45, 119, 101, 105, 103, 104, 116, 58, 52, 48, 48]) = false›) (ne_of_beq ‹(T.toList == [102, 111, 110, 116, 45, 115, 116, 121, 108, 101, 58, 105, 116, 97, 108, 105, 99]) = false›) (ne_of_beq ‹(T.toList == [102, 111, 110, 116, 45, 115, 116, 121, 108, 101, 58, 110, 111, 114, 109, 97, 108]) = false›) (eq_of_beq ‹(T.toList == [116, 101, 120, 116, 45, 100, 101, 99, 111, 114, 97, 116, 105, 111, 110, 58, 110, 111, 110, 101]) = true›))) rfl
  all_goals have h8 := (HE.out ((pre.map (·.1)).foldl cssStep (0, 0))).trans (cssT8 (ne_of_beq ‹(T.toList == [102, 111, 110, 116, 45, 119, 101, 105, 103, 104, 116, 58, 98, 111, 108, 100]) = false›) (ne_of_beq ‹(T.toList == [102, 111, 110, 116, 45, 119, 101, 105, 103, 104, 116, 58, 55, 48, 48]) = false›) (ne_of_beq ‹(T.toList == [102, 111, 110, 116, 45, 119, 101, 105, 103, 104, 116, 58, 110, 111, 114, 109, 97, 108]) = false›) (ne_of_beq ‹(T.toList == [102, 111, 110, 116, 45, 119, 101, 105, 103, 104, 116, 58, 52, 48, 48]) = false›) (ne_of_beq ‹(T.toList == [102, 111, 110, 116, 45, 115, 116, 121, 108, 101, 58, 105, 116, 97, 108, 105, 99]) = false›) (ne_of_beq ‹(T.toList == [102, 111, 110, 116, 45, 115, 116, 121, 108, 101, 58, 110, 111, 114, 109, 97, 108]) = false›) (ne_of_beq ‹(T.toList == [116, 101, 120, 116, 45, 100, 101, 99, 111, 114, 97, 116, 105, 111, 110, 58, 110, 111, 110, 101]) = false›))
  all_goals go_tidy
  ·exact pi_said2 (x := ⟨(nm, vl), hx1, hx2⟩) HI.out HB2.out hz0 (h8.trans ((if_pos ‹(words vl).2 = true›).trans (if_pos (show nm = textDeco from beq_iff_eq.1 ‹_›)))) rfl
  ·exact pi_kept (x := ⟨(nm, vl), hx1, hx2⟩) HI.out (h8.trans ((if_pos ‹(words vl).2 = true›).trans (if_neg (show ¬ nm = textDeco from beq_eq_false_iff_ne.1 ‹_›)))) HB2.out
  ·exact pi_kept (x := ⟨(nm, vl), hx1, hx2⟩) HI.out (h8.trans (if_neg ‹_›)) HB2.out
 case done =>
  rintro D ys W hD hys ⟨c0, c1, c2, hb, hz⟩ hK
  have e0 := c0.cell
  have e1 := c1.cell
  have f0 := c0.frozen
  have f1 := c1.frozen
  gi_wp2
  gi_region
  gi_wp2
  have hK2 : ((W.setCell ⟨w.heap.size, 0, none⟩ (.int .i64 (List.foldl cssStep (0, 0) (decls s.data.toList)).1)).setCell ⟨w.heap.size + 1, 0, none⟩ (.int .i64 (List.foldl cssStep (0, 0) (decls s.data.toList)).2)).drew.heap[D]? = some (.deferred (some [])) := by
   show ((W.setCell _ _).setCell _ _).heap[D]? = _
   rw [Below.heap_setCell _ _ _ _ (by simp; omega), Below.heap_setCell _ _ _ _ (by simp; omega)]
   exact hK
  refine ⟨by simp, .inl ⟨_, _, rfl, run_takeDeferred hK2, ?_⟩⟩
  have g0 : (((W.setCell ⟨w.heap.size, 0, none⟩ (.int .i64 (List.foldl cssStep (0, 0) (decls s.data.toList)).1)).setCell ⟨w.heap.size + 1, 0, none⟩ (.int .i64 (List.foldl cssStep (0, 0) (decls s.data.toList)).2)).drew).cell? ⟨w.heap.size, 0, none⟩ = some (.int .i64 (List.foldl cssStep (0, 0) (decls s.data.toList)).1) :=
   (setCell_block (by omega)).trans (setCell_same e0)
  have g1 : (((W.setCell ⟨w.heap.size, 0, none⟩ (.int .i64 (List.foldl cssStep (0, 0) (decls s.data.toList)).1)).setCell ⟨w.heap.size + 1, 0, none⟩ (.int .i64 (List.foldl cssStep (0, 0) (decls s.data.toList)).2)).drew).cell? ⟨w.heap.size + 1, 0, none⟩ = some (.int .i64 (List.foldl cssStep (0, 0) (decls s.data.toList)).2) :=
   setCell_same ((setCell_block (by omega)).trans e1)
  have hB2 : Below w.heap.size w ((W.setCell ⟨w.heap.size, 0, none⟩ (.int .i64 (List.foldl cssStep (0, 0) (decls s.data.toList)).1)).setCell ⟨w.heap.size + 1, 0, none⟩ (.int .i64 (List.foldl cssStep (0, 0) (decls s.data.toList)).2)).drew :=
   ((hb.setCell (p := ⟨w.heap.size, 0, none⟩) (Nat.le_refl _) _).setCell (p := ⟨w.heap.size + 1, 0, none⟩) (by simp) _).drew
  generalize ((W.setCell ⟨w.heap.size, 0, none⟩ (.int .i64 (List.foldl cssStep (0, 0) (decls s.data.toList)).1)).setCell ⟨w.heap.size + 1, 0, none⟩ (.int .i64 (List.foldl cssStep (0, 0) (decls s.data.toList)).2)).drew = W9 at *
  have hD2 : w.heap.size + 4 ≤ D := by omega
  have q0 : (W9.putObj D (.deferred none)).cell? ⟨w.heap.size, 0, none⟩ = some (.int .i64 (List.foldl cssStep (0, 0) (decls s.data.toList)).1) := (World.cell?_of_block (World.putObj_heap_other (by simp; omega))).trans g0
  have q1 : (W9.putObj D (.deferred none)).cell? ⟨w.heap.size + 1, 0, none⟩ = some (.int .i64 (List.foldl cssStep (0, 0) (decls s.data.toList)).2) := (World.cell?_of_block (World.putObj_heap_other (by simp; omega))).trans g1
  refine ⟨_, ?_, rfl, ?_⟩
  ·simp [results, Tryz.results137, go_sem, q0, q1]
   exact ⟨rfl, rfl⟩
  ·exact hB2.trans (belowK_b (w := w) (Nat.le_refl _) W9 D _ _ (by omega) hK2 rfl rfl)
 case stop =>
  rintro D c pre W _ _ h _
  exact h.elim
end Go.Proofs.YtjpgffihafknlaaGreatDoor
namespace Go.Proofs.Qw
open Go.RowKit Go.Proofs.YtjpgffihafknlaaGreatDoor
theorem cssPV : CssP := fun s w he hs => parse_any s w he hs
end Go.Proofs.Qw
