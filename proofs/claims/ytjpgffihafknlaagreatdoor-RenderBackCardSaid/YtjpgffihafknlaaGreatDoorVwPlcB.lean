/- The walk of view.Reach. -/
import Derived.Test.YtjpgffihafknlaaGreatDoorVwRowB
import Derived.Test.YtjpgffihafknlaaGreatDoorCharsTextB
set_option linter.unusedVariables false
set_option linter.unusedSimpArgs false
namespace Go.Proofs.Qw
open Go.RowKit
theorem reach_nil (n : Nod) : reachN n [] = (0, n) := by rw [reachN]
theorem reach_stop {n : Nod} {i : Int} {p : List Int} (h : asideT n.tag = true ∨ i < 0 ∨ (n.kids.length : Int) ≤ i) : reachN n (i :: p) = (0, n) := by rw [reachN, if_pos h]
theorem reach_on {n x : Nod} {i : Int} {p : List Int} (h1 : asideT n.tag = false) (h2 : ¬ i < 0) (h3 : ¬ (n.kids.length : Int) ≤ i) (hx : n.kids[i.toNat]? = some x) : reachN n (i :: p) = ((reachN x p).1 + 1, (reachN x p).2) := by
 rw [reachN, if_neg (by rw [h1]; simp; omega)]
 have e : n.kids.getD i.toNat default = x := by rw [List.getD_eq_getElem?_getD, hx]; rfl
 rw [e]
end Go.Proofs.Qw
namespace Go.Proofs.YtjpgffihafknlaaGreatDoor
open Go.RowKit
open Go.Proofs.Qw
attribute [local go_sem] Oper.semAt_some
theorem results_tn {fn : Func} {p s : Tmp} (h : fn.results = #[.tmp s, .cell p 25]) (tmps : Array Value) (w : World) (B : Nat) (x y z v : Value) (hp : tmps.getD p undef = .pointer (some ⟨B, 0, none⟩)) (hB : w.heap[B]? = some (.cells #[x, y, z, v] 25)) :
  (results fn tmps).run Tryz.prog w = .ok (.tuple #[tmps.getD s undef, .agg #[x, y, z, v]]) w := by
 have hp' : tmps[p]?.getD undef = .pointer (some ⟨B, 0, none⟩) := by simpa using hp
 have h1 := run_loadVar_row (P := Tryz.prog) w B 25 25 _ _ _ hB Tryz.underlying25 rfl (by kernel_rfl)
 simp [results, h, hp', asAddr, h1]
structure RchAt (h Z : Nat) (x : Nod) (a k : Value) (wr w0 : World) (S : Nat → Prop) : Prop where
 blk : wr.heap[Z]? = some (.cells #[.int .i64 x.tag, a, .string ⟨x.text.toArray⟩, k] 25)
 atts : AttsR false w0 S a x.attrs
 kids : NodsR false h w0 S k x.kids
 fit : FitN x
def ReachOut (h : Nat) (r : Nat × Nod) (w : World) (e : Ending) (w' : World) : Prop := ∃ aa ac ka kc, e = .returned (.tuple #[.int .i64 r.1, .agg #[.int .i64 r.2.tag, .slice aa r.2.attrs.length ac, .string ⟨r.2.text.toArray⟩, .slice ka r.2.kids.length kc]]) ∧ AttsR true w' (fun b => w.heap.size ≤ b) (.slice aa r.2.attrs.length ac) r.2.attrs ∧ NodsR true h w' (fun b => w.heap.size ≤ b) (.slice ka r.2.kids.length kc) r.2.kids ∧ Below w.heap.size w w'
theorem set4_other {w : World} {B Z : Nat} {o : Obj} {x y z v : Value} (h : Z ≠ B) (ho : w.heap[Z]? = some o) : ((((w.setCell ⟨B, 0, none⟩ x).setCell ⟨B, 1, none⟩ y).setCell ⟨B, 2, none⟩ z).setCell ⟨B, 3, none⟩ v).heap[Z]? = some o :=
 (Below.heap_setCell _ ⟨B, 3, none⟩ v _ h).trans ((Below.heap_setCell _ ⟨B, 2, none⟩ z _ h).trans ((Below.heap_setCell _ ⟨B, 1, none⟩ y _ h).trans ((Below.heap_setCell w ⟨B, 0, none⟩ x _ h).trans ho)))
theorem reach_end {h m : Nat} {w wr w2 : World} {n : Nod} {a k x y z v : Value} (hB : Below w.heap.size w wr) (hb : Below wr.heap.size wr w2) (hm : wr.heap.size ≤ m) (hz : w.heap.size + 1 + 1 < wr.heap.size) (h1 : AttsR true w2 (fun b => m ≤ b) a n.attrs) (h2 : NodsR true h w2 (fun b => m ≤ b) k n.kids) :
  AttsR true ((((w2.setCell ⟨w.heap.size + 1, 0, none⟩ x).setCell ⟨w.heap.size + 1, 1, none⟩ y).setCell ⟨w.heap.size + 1, 2, none⟩ z).setCell ⟨w.heap.size + 1, 3, none⟩ v) (fun b => w.heap.size ≤ b) a n.attrs ∧ NodsR true h ((((w2.setCell ⟨w.heap.size + 1, 0, none⟩ x).setCell ⟨w.heap.size + 1, 1, none⟩ y).setCell ⟨w.heap.size + 1, 2, none⟩ z).setCell ⟨w.heap.size + 1, 3, none⟩ v) (fun b => w.heap.size ≤ b) k n.kids ∧ Below w.heap.size w ((((w2.setCell ⟨w.heap.size + 1, 0, none⟩ x).setCell ⟨w.heap.size + 1, 1, none⟩ y).setCell ⟨w.heap.size + 1, 2, none⟩ z).setCell ⟨w.heap.size + 1, 3, none⟩ v) := by
 have hn : ¬ m ≤ w.heap.size + 1 := by omega
 have hk : Keeps (fun b => m ≤ b) w2 ((((w2.setCell ⟨w.heap.size + 1, 0, none⟩ x).setCell ⟨w.heap.size + 1, 1, none⟩ y).setCell ⟨w.heap.size + 1, 2, none⟩ z).setCell ⟨w.heap.size + 1, 3, none⟩ v) := ((((Keeps.refl _ _).set hn _).set hn _).set hn _).set hn _
 refine ⟨h1.stable (rdOf_stable _) hk (fun b hb _ => by have hb : m ≤ b := hb; omega), h2.stable (rdNod_stable _ _) hk (fun b hb _ => by have hb : m ≤ b := hb; omega), ?_⟩
 have hbb : Below w.heap.size w w2 := hB.trans (hb.mono hB.size)
 exact (((hbb.setCell (Nat.le_succ _) _).setCell (Nat.le_succ _) _).setCell (Nat.le_succ _) _).setCell (Nat.le_succ _) _
set_option maxRecDepth 100000 in
set_option maxHeartbeats 4000000 in
theorem reach_any (h : Nat) (n : Nod) (na nk pv : Value) (path : List Int) (w w0 : World) (S S' : Nat → Prop) (hA : AttsR false w0 S na n.attrs) (hK : NodsR false h w0 S nk n.kids) (h0 : Below w0.heap.size w0 w) (hp : IntsR false w0 S' pv path) (hf : FitN n) :
  Calls Tryz.prog 21 #[nodV n na nk, pv] w (ReachOut h (reachN n path) w) := by
 obtain ⟨la, lc, rfl⟩ := hA.slice
 obtain ⟨ka, kc, rfl⟩ := hK.slice
 obtain ⟨pa, pc, rfl, hpc, hpm, hpx⟩ := ints_shape hp
 obtain ⟨W1, hW1⟩ : ∃ W1, ((w.alloc (.cells #[.int .i64 n.tag, .slice la n.attrs.length lc, .string ⟨n.text.toArray⟩, .slice ka n.kids.length kc] 25)).alloc (.cells #[.int .i64 0, .slice none 0 0, .string ⟨#[]⟩, .slice none 0 0] 25)).alloc (.cells #[.int .i64 n.tag, .slice la n.attrs.length lc, .string ⟨n.text.toArray⟩, .slice ka n.kids.length kc] 25) = W1 := ⟨_, rfl⟩
 have hB : Below w.heap.size w W1 := hW1 ▸ (((Below.refl _ _).alloc (Nat.le_refl _) _).alloc (by simp) _).alloc (by simp; omega) _
 have z5 : W1.heap[w.heap.size + 1]? = some (.cells #[.int .i64 0, .slice none 0 0, .string ⟨#[]⟩, .slice none 0 0] 25) := hW1 ▸ heap_old _ _ (heap_new _ _ (by simp))
 have z6 : W1.heap[w.heap.size + 1 + 1]? = some (.cells #[.int .i64 n.tag, .slice la n.attrs.length lc, .string ⟨n.text.toArray⟩, .slice ka n.kids.length kc] 25) := hW1 ▸ heap_new _ _ (by simp)
 have HW1 := Lib.hid hW1
 have HR0 : Hid (RchAt h (w.heap.size + 1 + 1) n (.slice la n.attrs.length lc) (.slice ka n.kids.length kc) W1 w0 S) := Lib.hid ⟨z6, hA, hK, hf⟩
 have HZ5 : Hid (∃ cs, W1.heap[w.heap.size + 1]? = some (.cells #[.int .i64 0, .slice none 0 0, .string ⟨#[]⟩, .slice none 0 0] 25) ∧ cs = 0) := Lib.hid ⟨0, z5, rfl⟩
 have HP := Lib.hid hpx
 have HB := Lib.hid hB
 have H0 := Lib.hid h0
 have HAs : Hid (∀ (x : Nod) (a k : Value) (X : World), RchAt h (w.heap.size + 1 + 1) x a k X w0 S → ∀ W, Calls Tryz.prog 46 #[nodV x a k] W fun e w' => e = .returned (.bool (asideT x.tag)) ∧ Below W.heap.size W w') := Lib.hid fun x a k X hX W => aside_any x a k W w0 S h hX.atts hX.kids
 have HOw : Hid (∀ (x : Nod) (a k : Value) (X : World), RchAt h (w.heap.size + 1 + 1) x a k X w0 S → ∀ W, Below w0.heap.size w0 W → Calls Tryz.prog 47 #[nodV x a k] W fun e w' => ∃ aa ac ka kc, e = .returned (.agg #[.int .i64 x.tag, .slice aa x.attrs.length ac, .string ⟨x.text.toArray⟩, .slice ka x.kids.length kc]) ∧ AttsR true w' (fun b => W.heap.size ≤ b) (.slice aa x.attrs.length ac) x.attrs ∧ NodsR true h w' (fun b => W.heap.size ≤ b) (.slice ka x.kids.length kc) x.kids ∧ Below W.heap.size W w') := Lib.hid fun x a k X hX W hW => (nodOwn_any h x a k false false W w0 S hX.atts hX.kids hW hX.fit).mono fun _ _ ⟨a', k', h1, h2, h3, h4⟩ => by
  obtain ⟨aa, ac, rfl⟩ := h2.slice
  obtain ⟨ka, kc, rfl⟩ := h3.slice
  exact ⟨aa, ac, ka, kc, h1, h2, h3, h4⟩
 unfold maxLen at hpm
 clear hA hK hp hpx hB z5 z6 hW1 h0 hf
 unfold nodV at *
 go_enter Tryz.func21, Tryz.ntmps21
 go_wp2_with fail
 rw [HW1.out]
 go_loopw [12] (fun i wr => ∃ (j : Nat) (x : Nod) (xa ya : Option Addr) (xc yc : Nat), j ≤ path.length ∧ i = .int .i64 j ∧ Hid (reachN n path = ((reachN x (path.drop j)).1 + j, (reachN x (path.drop j)).2)) ∧ Hid (RchAt h (w.heap.size + 1 + 1) x (.slice xa x.attrs.length xc) (.slice ya x.kids.length yc) wr w0 S) ∧ Hid (Below w.heap.size w wr) ∧ Hid (wr.heap[w.heap.size + 1]? = some (.cells #[.int .i64 0, .slice none 0 0, .string ⟨#[]⟩, .slice none 0 0] 25))) (fun i _ => path.length - (intOf i).toNat)
 case atStart => exact ⟨0, n, la, ka, lc, kc, Nat.zero_le _, rfl, Lib.hid rfl, HR0, HB, Lib.hid (by obtain ⟨_, h, _⟩ := HZ5.out; exact h)⟩
 case round =>
  obtain ⟨j, x, xa, ya, xc, yc, hj, rfl, HEq, HRr, HBr, HZr⟩ := hrel
  obtain ⟨q6, g6⟩ := blk HRr.out.blk
  obtain ⟨q5, g5⟩ := blk HZr.out
  have hx0 : Below w0.heap.size w0 wr := H0.out.trans (HBr.out.mono H0.out.size)
  have hzr : w.heap.size + 1 + 1 < wr.heap.size := lt_of_heap HRr.out.blk
  by_cases hlt : j < path.length
  ·obtain ⟨c, hcj, hd⟩ := getOf path j hlt
   obtain ⟨b, o, rfl, hbz, hcc⟩ := HP.out j c hcj
   have hcw := (hx0.cell (p := ⟨b, o + j, none⟩) hbz).trans hcc
   have i0 : (0 : Int) ≤ (j : Int) := Int.natCast_nonneg _
   have i1 : (j : Int) < (path.length : Int) := by omega
   have HAx := Lib.hid (HAs.out x _ _ wr HRr.out)
   have HOx := Lib.hid (HOw.out x _ _ wr HRr.out)
   obtain ⟨sd, hsd⟩ : ∃ q, asideT x.tag = q := ⟨_, rfl⟩
   have HSd := Lib.hid hsd
   rw [hsd] at HAx
   have HKx := Lib.hid (SliceR.len HRr.out.kids).2
   have hcs : (sd = true) ∨ (sd = false ∧ c < 0) ∨ (sd = false ∧ ¬ c < 0 ∧ (x.kids.length : Int) ≤ c) ∨ (sd = false ∧ ¬ c < 0 ∧ ¬ (x.kids.length : Int) ≤ c) := by
    cases sd
    ·by_cases h1 : c < 0
     ·exact .inr (.inl ⟨rfl, h1⟩)
     ·by_cases h2 : (x.kids.length : Int) ≤ c
      ·exact .inr (.inr (.inl ⟨rfl, h1, h2⟩))
      ·exact .inr (.inr (.inr ⟨rfl, h1, h2⟩))
    ·exact .inl rfl
   clear hsd hcc hbz
   rcases hcs with rfl | ⟨rfl, h1⟩ | ⟨rfl, h1, h2⟩ | ⟨rfl, h1, h2⟩
   ·have HE : Hid (reachN n path = (j, x)) := Lib.hid (by rw [HEq.out, hd, reach_stop (.inl HSd.out)]; simp)
    clear hd hcj
    go_wp2_with (first
     | (go_at_call 46; refine (HAx.out _).mono ?_; rintro e w2 ⟨rfl, hb2⟩; have hx2 := below_from hx0 hb2; obtain ⟨s6, t6⟩ := blk (heap_below hb2 HRr.out.blk); have hz52 := heap_below hb2 HZr.out)
     | (go_at_call 47; refine (HOx.out _ hx2).mono ?_; rintro e w3 ⟨oa, oc, ob, od, rfl, ho1, ho2, hb3⟩; have hz53 := heap_below hb3 hz52; obtain ⟨r5, t5⟩ := blk hz53))
    refine bodyPost_ret (results_tn rfl _ _ (w.heap.size + 1) (.int .i64 x.tag) (.slice oa x.attrs.length oc) (.string ⟨x.text.toArray⟩) (.slice ob x.kids.length od) rfl (setCell_heap (setCell_heap (setCell_heap (setCell_heap hz53 _) _) _) _)) rfl ?_
    rw [HE.out]
    exact ⟨oa, oc, ob, od, rfl, reach_end HBr.out (below_from hb2 hb3) hb2.size hzr ho1 ho2⟩
   ·have HE : Hid (reachN n path = (j, x)) := Lib.hid (by rw [HEq.out, hd, reach_stop (.inr (.inl h1))]; simp)
    have h1d : decide (c < 0) = true := decide_eq_true h1
    clear hd hcj
    go_wp2_with (first
     | (go_at_call 46; refine (HAx.out _).mono ?_; rintro e w2 ⟨rfl, hb2⟩; have hx2 := below_from hx0 hb2; obtain ⟨s6, t6⟩ := blk (heap_below hb2 HRr.out.blk); have hz52 := heap_below hb2 HZr.out)
     | (go_at_call 47; refine (HOx.out _ hx2).mono ?_; rintro e w3 ⟨oa, oc, ob, od, rfl, ho1, ho2, hb3⟩; have hz53 := heap_below hb3 hz52; obtain ⟨r5, t5⟩ := blk hz53))
    refine bodyPost_ret (results_tn rfl _ _ (w.heap.size + 1) (.int .i64 x.tag) (.slice oa x.attrs.length oc) (.string ⟨x.text.toArray⟩) (.slice ob x.kids.length od) rfl (setCell_heap (setCell_heap (setCell_heap (setCell_heap hz53 _) _) _) _)) rfl ?_
    rw [HE.out]
    exact ⟨oa, oc, ob, od, rfl, reach_end HBr.out (below_from hb2 hb3) hb2.size hzr ho1 ho2⟩
   ·have HE : Hid (reachN n path = (j, x)) := Lib.hid (by rw [HEq.out, hd, reach_stop (.inr (.inr h2))]; simp)
    have h1d : decide (c < 0) = false := decide_eq_false h1
    have h2d : decide ((x.kids.length : Int) ≤ c) = true := decide_eq_true h2
    clear hd hcj
    go_wp2_with (first
     | (go_at_call 46; refine (HAx.out _).mono ?_; rintro e w2 ⟨rfl, hb2⟩; have hx2 := below_from hx0 hb2; obtain ⟨s6, t6⟩ := blk (heap_below hb2 HRr.out.blk); have hz52 := heap_below hb2 HZr.out)
     | (go_at_call 47; refine (HOx.out _ hx2).mono ?_; rintro e w3 ⟨oa, oc, ob, od, rfl, ho1, ho2, hb3⟩; have hz53 := heap_below hb3 hz52; obtain ⟨r5, t5⟩ := blk hz53))
    refine bodyPost_ret (results_tn rfl _ _ (w.heap.size + 1) (.int .i64 x.tag) (.slice oa x.attrs.length oc) (.string ⟨x.text.toArray⟩) (.slice ob x.kids.length od) rfl (setCell_heap (setCell_heap (setCell_heap (setCell_heap hz53 _) _) _) _)) rfl ?_
    rw [HE.out]
    exact ⟨oa, oc, ob, od, rfl, reach_end HBr.out (below_from hb2 hb3) hb2.size hzr ho1 ho2⟩
   ·obtain ⟨ci, rfl⟩ : ∃ ci : Nat, c = (ci : Int) := ⟨c.toNat, by omega⟩
    have hcl : ci < x.kids.length := by omega
    obtain ⟨y, hy, _⟩ := getOf x.kids ci hcl
    obtain ⟨a2, c2, e2, hc2, hm2, hx2⟩ := nods_shape HRr.out.kids
    cases e2
    obtain ⟨b2, o2, va, vc, wa, wc', h', rfl, rfl, hAy⟩ := hx2 ci y hy
    have HE : Hid (reachN n path = ((reachN y (path.drop (j + 1))).1 + (j + 1), (reachN y (path.drop (j + 1))).2)) := Lib.hid (by
     rw [HEq.out, hd, reach_on HSd.out h1 h2 (by simpa using hy)]
     simp only [Nat.add_assoc, Nat.add_comm 1 j])
    have HY : Hid (AttsR false w0 S (.slice va y.attrs.length vc) y.attrs ∧ NodsR false (h' + 1) w0 S (.slice wa y.kids.length wc') y.kids ∧ FitN y) := Lib.hid ⟨hAy.attrsR, hAy.kidsR.imp (fun _ _ _ g => rdNod_mono (Nat.le_succ _) g), fit_mem (fit_parts HRr.out.fit).2.2 (List.mem_of_getElem? hy)⟩
    have h1d : decide ((ci : Int) < 0) = false := decide_eq_false h1
    have h2d : decide ((x.kids.length : Int) ≤ (ci : Int)) = false := decide_eq_false h2
    have h2e : decide (x.kids.length ≤ ci) = false := decide_eq_false (by omega)
    have j0 : (0 : Int) ≤ (ci : Int) := Int.natCast_nonneg _
    have j1 : (ci : Int) < (x.kids.length : Int) := by omega
    have hAw := hAy.below hx0
    unfold maxLen at hm2
    clear hd hcj h1 h2 hx2 hAy hy
    go_wp2_with (go_at_call 46; refine (HAx.out _).mono ?_; rintro e w2 ⟨rfl, hb2⟩; have hx2 := below_from hx0 hb2; obtain ⟨s6, t6⟩ := blk (heap_below hb2 HRr.out.blk); obtain ⟨hz9, c0, c1, c2', c3, _, _⟩ := hAw.below hb2; have hz52 := heap_below hb2 HZr.out; have hz62 := heap_below hb2 HRr.out.blk)
    go_roundw
    case rel =>
     have hsz := hb2.size
     have hbw : Below w.heap.size w w2 := HBr.out.trans (hb2.mono HBr.out.size)
     exact ⟨j + 1, y, va, wa, vc, wc', hlt, by go_num, HE, Lib.hid ⟨setCell_heap (setCell_heap (setCell_heap (setCell_heap hz62 _) _) _) _, HY.out.1, HY.out.2.1, HY.out.2.2⟩, Lib.hid ((((hbw.setCell (by simp; omega) _).setCell (by simp; omega) _).setCell (by simp; omega) _).setCell (by simp; omega) _), Lib.hid (set4_other (by omega) hz52)⟩
    case measure => simp [intOf]; omega
  ·obtain rfl : j = path.length := by omega
   have HE : Hid (reachN n path = (path.length, x)) := Lib.hid (by rw [HEq.out, List.drop_length, reach_nil]; simp)
   have HOx := Lib.hid (HOw.out x _ _ wr HRr.out wr hx0)
   go_wp2_with (go_at_call 47; refine HOx.out.mono ?_; rintro e w2 ⟨oa, oc, ob, od, rfl, ho1, ho2, hb2⟩; have hz52 := heap_below hb2 HZr.out; obtain ⟨r5, t5⟩ := blk hz52)
   refine bodyPost_ret (results_tn rfl _ _ (w.heap.size + 1) (.int .i64 x.tag) (.slice oa x.attrs.length oc) (.string ⟨x.text.toArray⟩) (.slice ob x.kids.length od) rfl (setCell_heap (setCell_heap (setCell_heap (setCell_heap hz52 _) _) _) _)) rfl ?_
   rw [HE.out]
   exact ⟨oa, oc, ob, od, rfl, reach_end HBr.out hb2 (Nat.le_refl _) hzr ho1 ho2⟩
end Go.Proofs.YtjpgffihafknlaaGreatDoor
namespace Go.Proofs.YtjpgffihafknlaaGreatDoor
open Go.RowKit
open Go.Proofs.Qw
attribute [local go_sem] Oper.semAt_some
theorem LnsR.lt {n : Nat} {w : World} {v : Value} {xs : List (Lin × Option Nat)} (h : LnsR n w v xs) : ∀ b, v.ownBlock = some b → b < w.heap.size := fun b hb => by
 obtain ⟨_, cs, h2⟩ := h.blk b hb
 exact lt_of_heap h2
theorem KeepT.lines {B : Nat} {w w' : World} {v : Value} {xs : List (Lin × Option Nat)} (h : LnsR (B + 1) w v xs) (hg : w.grownBy w' v.ownBlock) : KeepT B w w' :=
 KeepT.grown (.inl rfl) hg fun d hd => by
  obtain ⟨h1, h2⟩ := h.blk d hd
  exact ⟨h1, h2⟩
theorem KeepT.cells {B : Nat} {w w' : World} {v : Value} {z : Option Nat} (hz : v.ownBlock = z) (h : ∀ b, z = some b → B + 1 ≤ b ∧ ∃ cs, w.heap[b]? = some (.cells cs 66)) (hg : w.grownBy w' v.ownBlock) : KeepT B w w' :=
 KeepT.grown (.inr rfl) hg fun d hd => by
  obtain ⟨h1, h2⟩ := h d (hz.symm.trans hd)
  exact ⟨h1, h2⟩
structure SetB (B : Nat) (w w' : World) : Prop where
 keep : KeepT B w w'
 blk : ∀ b, b ≠ B → w'.heap[b]? = w.heap[b]?
 size : w'.heap.size = w.heap.size
theorem SetB.one (B : Nat) (w : World) (o : Nat) (v : Value) : SetB B w (w.setCell ⟨B, o, none⟩ v) := ⟨KeepT.set w o v, fun _ hb => Below.heap_setCell w ⟨B, o, none⟩ v _ hb, by simp⟩
theorem SetB.trans {B : Nat} {a b c : World} (h : SetB B a b) (k : SetB B b c) : SetB B a c := ⟨h.keep.trans k.keep, fun d hd => (k.blk d hd).trans (h.blk d hd), k.size.trans h.size⟩
set_option maxRecDepth 100000 in
set_option maxHeartbeats 4000000 in
theorem begin_any (B : Nat) (a : Aro) (lv : Value) (s : VSt) (w : World) (h : VwR B w a lv s) (hc : s.lines.length ≤ 10000000) (hl : a.lists.length ≤ 1000000) :
  Calls Tryz.prog 64 #[.pointer (some ⟨B, 0, none⟩)] w fun e w' => (∃ u, e = .returned u) ∧ VwR B w' a lv (beginV a s) ∧ KeepT B w w' := by
 obtain ⟨lns, xs, hB, hI, hL, hx⟩ := h
 have hBz := lt_of_heap hB
 have hxc : xs.length ≤ 10000000 := by rw [← hx, List.length_map] at hc; exact hc
 clear hc
 obtain ⟨na, nc, hne⟩ := hL.row.slice
 obtain ⟨la, lc, rfl⟩ := hI.slice
 have HCl : Hid (∀ W, Below w.heap.size w W → Calls Tryz.prog 62 #[.slice la a.lists.length lc] W fun e w' => ∃ va vc, e = .returned (.slice va a.lists.length vc) ∧ IntsR true w' (fun b => W.heap.size ≤ b) (.slice va a.lists.length vc) a.lists ∧ Below W.heap.size W w') := Lib.hid fun W hW => (cloneInt_any _ a.lists true W w _ hI hW hl).mono fun _ _ ⟨v', h1, h2, h3⟩ => by
  obtain ⟨va, vc, rfl⟩ := h2.slice
  exact ⟨va, vc, h1, h2, h3⟩
 subst hne
 unfold walkC at hB
 obtain ⟨p1, f1⟩ := blk hB
 have HB := Lib.hid hB
 have HI := Lib.hid hI
 have HL := Lib.hid hL
 have HX := Lib.hid hx
 obtain ⟨W1, hW1⟩ : ∃ W, w.alloc (.cells #[.int .i64 a.quote, .slice la a.lists.length lc, .int .i64 a.kind, .slice none 0 0] 37) = W := ⟨_, rfl⟩
 have hx1 : Below w.heap.size w W1 := hW1 ▸ (Below.refl _ _).alloc (Nat.le_refl _) _
 have hZ1 : W1.heap[w.heap.size]? = some (.cells #[.int .i64 a.quote, .slice la a.lists.length lc, .int .i64 a.kind, .slice none 0 0] 37) := hW1 ▸ heap_new _ _ rfl
 have hz1 : w.heap.size < W1.heap.size := lt_of_heap hZ1
 have HZ1 := Lib.hid hZ1
 have HW1 := Lib.hid hW1
 clear hI hL hx hB hW1 hZ1
 go_enter Tryz.func64, Tryz.ntmps64
 go_upto_region 2 with (go_at_call 62; rw [HW1.out]; refine (HCl.out _ hx1).mono ?_; rintro e w2 ⟨va, vc, rfl, hv2, hb2⟩; have HV2 := Lib.hid hv2; have hZ2 := heap_below hb2 HZ1.out; obtain ⟨q2, g2⟩ := blk hZ2; have HZ2 := Lib.hid hZ2; have HX2 := Lib.hid (below_from hx1 hb2); clear hv2 hb2 hZ2)
 have HKd : Hid ((frameA a).kind = if a.lists = [] then a.kind else 0) := Lib.hid rfl
 by_cases hl0 : a.lists = []
 ·have HN : Hid ((frameA a).kind = a.kind) := Lib.hid (by rw [HKd.out, if_pos hl0])
  have hgt : decide (0 < a.lists.length) = false := decide_eq_false (by rw [hl0]; decide)
  clear hl0
  go_upto_region 4 with fail
  obtain ⟨W4, hW4⟩ : ∃ W, (w2.setCell ⟨w.heap.size, 1, none⟩ (.slice va a.lists.length vc)) = W := ⟨_, rfl⟩
  rw [hW4]
  have hZ4 : W4.heap[w.heap.size]? = some (.cells #[.int .i64 a.quote, .slice va a.lists.length vc, .int .i64 a.kind, .slice none 0 0] 37) := hW4 ▸ setCell_heap HZ2.out _
  have hx4 : Below w.heap.size w W4 := hW4 ▸ HX2.out.setCell (Nat.le_refl _) _
  have HV4 : Hid (IntsR true W4 (fun b => B + 1 ≤ b) (.slice va a.lists.length vc) a.lists) := Lib.hid (hW4 ▸ HV2.out.stable (rdOf_stable _) ((Keeps.refl _ _).set (Nat.not_le_of_lt hz1) _) (fun b h _ => Nat.le_trans (Nat.succ_le_of_lt (Nat.lt_trans hBz hz1)) h))
  have hB4 := heap_below hx4 HB.out
  have hL4 := HL.out.below hx4
  clear hW4 q2 g2 p1 f1 hgt
  have HAB : Hid (∀ X : World, X.heap[w.heap.size]? = W4.heap[w.heap.size]? → X.cell? ⟨w.heap.size, 0, none⟩ = some (.int .i64 a.quote) ∧ X.cell? ⟨w.heap.size, 1, none⟩ = some (.slice va a.lists.length vc) ∧ X.cell? ⟨w.heap.size, 2, none⟩ = some (.int .i64 a.kind) ∧ X.cell? ⟨w.heap.size, 3, none⟩ = some (.slice none 0 0)) := Lib.hid fun X hX => ⟨by rw [(blk (hX.trans hZ4)).1 0]; rfl, by rw [(blk (hX.trans hZ4)).1 1]; rfl, by rw [(blk (hX.trans hZ4)).1 2]; rfl, by rw [(blk (hX.trans hZ4)).1 3]; rfl⟩
  have HBB : Hid (∀ X : World, X.heap[B]? = W4.heap[B]? → X.cell? ⟨B, 6, none⟩ = some (.slice na xs.length nc)) := Lib.hid fun X hX => by rw [(blk (hX.trans hB4)).1 6]; rfl
  refine wp_region_T (fun X => X.cell? ⟨w.heap.size, 0, none⟩ = some (.int .i64 a.quote) ∧ X.cell? ⟨w.heap.size, 1, none⟩ = some (.slice va a.lists.length vc) ∧ X.cell? ⟨w.heap.size, 2, none⟩ = some (.int .i64 a.kind) ∧ X.cell? ⟨w.heap.size, 3, none⟩ = some (.slice none 0 0)) (fun X => X.cell? ⟨B, 6, none⟩ = some (.slice na xs.length nc)) 10 (by kernel_rfl) ?_
  refine anyT_take (i := 0) (v := ?_) (by simp only [qA, qS, qZ]; rfl) (by kernel_rfl) (by kernel_rfl) (by kernel_rfl) (by kernel_rfl) (fun _ _ _ h => h) (Or.inl ⟨by rfl, ?_⟩) ⟨HAB.out _ rfl, HBB.out _ rfl⟩ ?_
  rotate_left 1
  ·intro w hSw; (try dsimp only at hSw); go_simp; (first | done | with_reducible rfl)
  try simp only [Act.put, qI, qX, qY]
  refine anyT_take (i := 1) (v := ?_) (by simp only [qA, qS, qZ]; rfl) (by kernel_rfl) (by kernel_rfl) (by kernel_rfl) (by kernel_rfl) (fun _ _ _ h => h) (Or.inl ⟨by rfl, ?_⟩) ⟨HAB.out _ rfl, HBB.out _ rfl⟩ ?_
  rotate_left 1
  ·intro w hSw; (try dsimp only at hSw); go_simp; (first | done | with_reducible rfl)
  try simp only [Act.put, qI, qX, qY]
  refine anyT_take (i := 2) (v := ?_) (by simp only [qA, qS, qZ]; rfl) (by kernel_rfl) (by kernel_rfl) (by kernel_rfl) (by kernel_rfl) (fun _ _ _ h => h) (Or.inl ⟨by rfl, ?_⟩) ⟨HAB.out _ rfl, HBB.out _ rfl⟩ ?_
  rotate_left 1
  ·intro w hSw; (try dsimp only at hSw); go_simp; (first | done | with_reducible rfl)
  try simp only [Act.put, qI, qX, qY]
  refine anyT_take (i := 3) (v := ?_) (by simp only [qA, qS, qZ]; rfl) (by kernel_rfl) (by kernel_rfl) (by kernel_rfl) (by kernel_rfl) (fun _ _ _ h => h) (Or.inl ⟨by rfl, ?_⟩) ⟨HAB.out _ rfl, HBB.out _ rfl⟩ ?_
  rotate_left 1
  ·intro w hSw; (try dsimp only at hSw); go_simp; (first | done | with_reducible rfl)
  try simp only [Act.put, qI, qX, qY]
  refine anyT_take (i := 4) (v := ?_) (by simp only [qA, qS, qZ]; rfl) (by kernel_rfl) (by kernel_rfl) (by kernel_rfl) (by kernel_rfl) (fun _ _ _ h => h) (Or.inl ⟨by rfl, ?_⟩) ⟨HAB.out _ rfl, HBB.out _ rfl⟩ ?_
  rotate_left 1
  ·intro w hSw; (try dsimp only at hSw); go_simp; (first | done | with_reducible rfl)
  try simp only [Act.put, qI, qX, qY]
  refine anyT_take (i := 5) (v := ?_) (by simp only [qA, qS, qZ]; rfl) (by kernel_rfl) (by kernel_rfl) (by kernel_rfl) (by kernel_rfl) (fun _ _ _ h => h) (Or.inl ⟨by rfl, ?_⟩) ⟨HAB.out _ rfl, HBB.out _ rfl⟩ ?_
  rotate_left 1
  ·intro w hSw; (try dsimp only at hSw); go_simp; (first | done | with_reducible rfl)
  try simp only [Act.put, qI, qX, qY]
  refine anyT_ready (rs := [6]) (by kernel_rfl) (by simp) ?_
  refine AllReadyT.cons (by simp only [qA, qS, qZ]; rfl) (fun K hK => ?_) AllReadyT.nil
  go_simp
  obtain ⟨X1, hX1⟩ : ∃ X, (W4.alloc (.cells #[.int .i64 a.quote, .slice va a.lists.length vc, .int .i64 a.kind, .slice none 0 0] 37)).drew = X := ⟨_, rfl⟩
  have hsrc : Src Tryz.prog 4 29 (.slice (some ⟨W4.heap.size, 0, none⟩) 1 1) 1 [.int .i64 a.quote, .slice va a.lists.length vc, .int .i64 a.kind, .slice none 0 0] X1 := by rw [← hX1]; exact src_one rowLine W4.drew [.int .i64 a.quote, .slice va a.lists.length vc, .int .i64 a.kind, .slice none 0 0] rfl (by intro u hu; simp at hu; rcases hu with rfl | rfl | rfl | rfl <;> rfl) 1
  have hx41 : Below W4.heap.size W4 X1 := hX1 ▸ ((Below.refl _ _).alloc (Nat.le_refl _) _).drew
  rw [hX1]
  clear hX1
  have hZ4z := lt_of_heap hZ4
  have hB4z := lt_of_heap hB4
  refine hK.out _ _ (HAB.out _ (hx41.block _ hZ4z)) (Or.inr (HBB.out _ (hx41.block _ hB4z))) ?_
  clear hK K
  try simp only [Act.put, qI, qX, qY]
  refine anyT_ready (rs := [7]) (by kernel_rfl) (by simp) ?_
  refine AllReadyT.cons (by simp only [qA, qS, qZ]; rfl) (fun K hK => ?_) AllReadyT.nil
  have hL5 := hL4.below hx41
  have hBX : B + 1 ≤ X1.heap.size := Nat.le_trans hB4z hx41.size
  refine step_append_R (by rfl) _ _ 29 29 (by rfl) rowLine eltLn (B + 1) (.slice na xs.length nc) _ (xs := xs) (ys := [(frameA a, none)]) (news := [.int .i64 a.quote, .slice va a.lists.length vc, .int .i64 a.kind, .slice none 0 0]) (by rfl) (by rfl) hL5.row hBX hsrc (NewsR.one rfl ⟨_, _, by rw [HN.out]; rfl, HV4.out.below (rdOf_stable _) hx41, SliceR.nil _ _ _ _ _ _, rfl, fun b hb => by cases hb⟩) (by simp; omega) ?_
  intro v6 y hR6 hBl6 hG6 hO6
  obtain ⟨va6, vc6, hv6⟩ := hR6.slice
  have hlen6 : (xs ++ [(frameA a, none)]).length = xs.length + 1 := by simp
  rw [hlen6] at hv6; clear hlen6
  subst hv6
  have hZ6 : y.heap[w.heap.size]? = W4.heap[w.heap.size]? := (hG6.block _ (Nat.lt_of_lt_of_le hZ4z hx41.size) (fun e => Nat.lt_irrefl _ (HL.out.lt _ e.symm))).trans (hx41.block _ hZ4z)
  have hB6 : y.heap[B]? = W4.heap[B]? := (hBl6.block _ (Nat.lt_succ_self _)).trans (hx41.block _ hB4z)
  refine hK.out _ _ (HAB.out _ hZ6) (Or.inr (HBB.out _ hB6)) ?_
  clear hK K
  try simp only [Act.put, qI, qX, qY]
  refine anyT_takeA (i := 8) (v := ?_) (by simp only [qA, qS, qZ]; rfl) (by kernel_rfl) (by kernel_rfl) (by kernel_rfl) (by kernel_rfl) (fun _ _ _ h => h) (Or.inl ⟨by rfl, ?_⟩) (HAB.out _ hZ6) (Or.inr (HBB.out _ hB6)) ?_
  rotate_left 1
  ·intro w hSw; (try dsimp only at hSw); go_simp; (first | done | with_reducible rfl)
  try simp only [Act.put, qI, qX, qY]
  refine anyT_takeA (i := 9) (v := ?_) (by simp only [qA, qS, qZ]; rfl) (by kernel_rfl) (by kernel_rfl) (by kernel_rfl) (by kernel_rfl) (fun _ _ _ h => h) (Or.inl ⟨by rfl, ?_⟩) (HAB.out _ hZ6) (Or.inr (HBB.out _ hB6)) ?_
  rotate_left 1
  ·intro w hSw; (try dsimp only at hSw); go_simp; (first | done | with_reducible rfl)
  try simp only [Act.put, qI, qX, qY]
  obtain ⟨p6, f6⟩ := blk (hB6.trans hB4)
  refine anyT_ready (rs := [10]) (by kernel_rfl) (by simp) ?_
  refine AllReadyT.cons (by simp only [qA, qS, qZ]; rfl) (fun K hK => ?_) AllReadyT.nil
  go_simp
  have hneZ : w.heap.size ≠ B := Nat.ne_of_gt hBz
  refine hK.out _ _ (HAB.out _ ((Below.heap_setCell y ⟨B, 6, none⟩ (.slice va6 (xs.length + 1) vc6) _ hneZ).trans hZ6)) (Or.inl (by rfl)) ?_
  clear hK K
  refine anyT_done (by kernel_rfl) ?_ _
  refine NoPanic.normal ?_
  have hL6 : LnsR (B + 1) y (.slice va6 (xs.length + 1) vc6) (xs ++ [(frameA a, none)]) := hL5.app hR6
  have hk6 : KeepT B w y := ((KeepT.of hx4).trans (KeepT.of hx41)).trans (KeepT.lines hL5 hG6)
  have hI6 := hk6.row (by decide) (by decide) HI.out
  obtain ⟨W7, hW7⟩ : ∃ X, y.setCell ⟨B, 6, none⟩ (.slice va6 (xs.length + 1) vc6) = X := ⟨_, rfl⟩
  rw [hW7]
  have hB7 : W7.heap[B]? = some (.cells #[.int .i64 a.quote, .slice la a.lists.length lc, .int .i64 a.kind, .slice none 0 0, .int .i64 a.bits, .string ⟨a.href.toArray⟩, .slice va6 (xs.length + 1) vc6, .int .i64 s.cells, .bool s.opn, .int .i64 s.spot, .int .i64 s.pos.line, .int .i64 s.pos.col] 74) := hW7 ▸ setCell_heap (hB6.trans hB4) _
  have hk7 : KeepT B w W7 := hW7 ▸ hk6.trans (KeepT.set y 6 _)
  have hL7 : LnsR (B + 1) W7 (.slice va6 (xs.length + 1) vc6) (xs ++ [(frameA a, none)]) := hW7 ▸ hL6.stable ((Keeps.refl _ _).set (Nat.not_succ_le_self B) _)
  have hI7 : IntsR true W7 (fun b => B < b) (.slice la a.lists.length lc) a.lists := hW7 ▸ hI6.stable (rdOf_stable _) ((Keeps.refl _ _).set (Nat.lt_irrefl B) _) (fun _ h _ => h)
  have HL7 := Lib.hid hL7
  have HI7 := Lib.hid hI7
  have HK7 := Lib.hid hk7
  have HB7 := Lib.hid hB7
  obtain ⟨p7, f7⟩ := blk hB7
  have hsp : s.spot = 1 ∨ s.spot ≠ 1 := by omega
  clear hW7 hL6 hk6 hI6 hL7 hI7 hk7 hB7 hR6 hBl6 hG6 hO6 hZ6 hB6 p6 f6 hL5 hL4 hB4 hZ4 hx4 hx41 hsrc
  rcases hsp with hsp | hsp
  ·have hb1 : (s.spot == 1) = true := by simpa using hsp
   rw [hsp] at p7
   go_wp2_with fail
   go_returns
   have e : beginV a s = ⟨s.lines ++ [frameA a], s.cells, true, 2, ⟨xs.length, 0⟩⟩ := by unfold beginV; rw [if_pos hsp, if_pos hsp, show s.lines.length = xs.length by rw [← HX.out, List.length_map]]
   have hS := (((SetB.one B W7 8 (.bool true)).trans (SetB.one B _ 9 (.int .i64 2))).trans (SetB.one B _ 10 (.int .i64 (xs.length : Int)))).trans (SetB.one B _ 11 (.int .i64 0))
   rw [e]
   exact ⟨⟨_, rfl⟩, VwR.turn HL7.out hS.blk (Nat.le_of_eq hS.size.symm) (setCell_heap (setCell_heap (setCell_heap (setCell_heap HB7.out _) _) _) _) HI7.out (by simp [HX.out]), HK7.out.trans hS.keep⟩
  ·have hb1 : (s.spot == 1) = false := by simpa using hsp
   go_wp2_with fail
   go_returns
   have e : beginV a s = ⟨s.lines ++ [frameA a], s.cells, true, s.spot, s.pos⟩ := by unfold beginV; rw [if_neg hsp, if_neg hsp]
   have hS := SetB.one B W7 8 (.bool true)
   rw [e]
   exact ⟨⟨_, rfl⟩, VwR.turn HL7.out hS.blk (Nat.le_of_eq hS.size.symm) (setCell_heap HB7.out _) HI7.out (by simp [HX.out]), HK7.out.trans hS.keep⟩
 ·have HN : Hid ((frameA a).kind = 0) := Lib.hid (by rw [HKd.out, if_neg hl0])
  have hlz : 0 < a.lists.length := List.length_pos_iff.2 hl0
  clear hl0
  go_upto_region 4 with fail
  obtain ⟨W4, hW4⟩ : ∃ W, ((w2.setCell ⟨w.heap.size, 1, none⟩ (.slice va a.lists.length vc)).setCell ⟨w.heap.size, 2, none⟩ (.int .i64 0)) = W := ⟨_, rfl⟩
  rw [hW4]
  have hZ4 : W4.heap[w.heap.size]? = some (.cells #[.int .i64 a.quote, .slice va a.lists.length vc, .int .i64 0, .slice none 0 0] 37) := hW4 ▸ setCell_heap (setCell_heap HZ2.out _) _
  have hx4 : Below w.heap.size w W4 := hW4 ▸ (HX2.out.setCell (Nat.le_refl _) _).setCell (Nat.le_refl _) _
  have HV4 : Hid (IntsR true W4 (fun b => B + 1 ≤ b) (.slice va a.lists.length vc) a.lists) := Lib.hid (hW4 ▸ HV2.out.stable (rdOf_stable _) (((Keeps.refl _ _).set (Nat.not_le_of_lt hz1) _).set (Nat.not_le_of_lt hz1) _) (fun b h _ => Nat.le_trans (Nat.succ_le_of_lt (Nat.lt_trans hBz hz1)) h))
  have hB4 := heap_below hx4 HB.out
  have hL4 := HL.out.below hx4
  clear hW4 q2 g2 p1 f1 hlz
  have HAB : Hid (∀ X : World, X.heap[w.heap.size]? = W4.heap[w.heap.size]? → X.cell? ⟨w.heap.size, 0, none⟩ = some (.int .i64 a.quote) ∧ X.cell? ⟨w.heap.size, 1, none⟩ = some (.slice va a.lists.length vc) ∧ X.cell? ⟨w.heap.size, 2, none⟩ = some (.int .i64 0) ∧ X.cell? ⟨w.heap.size, 3, none⟩ = some (.slice none 0 0)) := Lib.hid fun X hX => ⟨by rw [(blk (hX.trans hZ4)).1 0]; rfl, by rw [(blk (hX.trans hZ4)).1 1]; rfl, by rw [(blk (hX.trans hZ4)).1 2]; rfl, by rw [(blk (hX.trans hZ4)).1 3]; rfl⟩
  have HBB : Hid (∀ X : World, X.heap[B]? = W4.heap[B]? → X.cell? ⟨B, 6, none⟩ = some (.slice na xs.length nc)) := Lib.hid fun X hX => by rw [(blk (hX.trans hB4)).1 6]; rfl
  refine wp_region_T (fun X => X.cell? ⟨w.heap.size, 0, none⟩ = some (.int .i64 a.quote) ∧ X.cell? ⟨w.heap.size, 1, none⟩ = some (.slice va a.lists.length vc) ∧ X.cell? ⟨w.heap.size, 2, none⟩ = some (.int .i64 0) ∧ X.cell? ⟨w.heap.size, 3, none⟩ = some (.slice none 0 0)) (fun X => X.cell? ⟨B, 6, none⟩ = some (.slice na xs.length nc)) 10 (by kernel_rfl) ?_
  refine anyT_take (i := 0) (v := ?_) (by simp only [qA, qS, qZ]; rfl) (by kernel_rfl) (by kernel_rfl) (by kernel_rfl) (by kernel_rfl) (fun _ _ _ h => h) (Or.inl ⟨by rfl, ?_⟩) ⟨HAB.out _ rfl, HBB.out _ rfl⟩ ?_
  rotate_left 1
  ·intro w hSw; (try dsimp only at hSw); go_simp; (first | done | with_reducible rfl)
  try simp only [Act.put, qI, qX, qY]
  refine anyT_take (i := 1) (v := ?_) (by simp only [qA, qS, qZ]; rfl) (by kernel_rfl) (by kernel_rfl) (by kernel_rfl) (by kernel_rfl) (fun _ _ _ h => h) (Or.inl ⟨by rfl, ?_⟩) ⟨HAB.out _ rfl, HBB.out _ rfl⟩ ?_
  rotate_left 1
  ·intro w hSw; (try dsimp only at hSw); go_simp; (first | done | with_reducible rfl)
  try simp only [Act.put, qI, qX, qY]
  refine anyT_take (i := 2) (v := ?_) (by simp only [qA, qS, qZ]; rfl) (by kernel_rfl) (by kernel_rfl) (by kernel_rfl) (by kernel_rfl) (fun _ _ _ h => h) (Or.inl ⟨by rfl, ?_⟩) ⟨HAB.out _ rfl, HBB.out _ rfl⟩ ?_
  rotate_left 1
  ·intro w hSw; (try dsimp only at hSw); go_simp; (first | done | with_reducible rfl)
  try simp only [Act.put, qI, qX, qY]
  refine anyT_take (i := 3) (v := ?_) (by simp only [qA, qS, qZ]; rfl) (by kernel_rfl) (by kernel_rfl) (by kernel_rfl) (by kernel_rfl) (fun _ _ _ h => h) (Or.inl ⟨by rfl, ?_⟩) ⟨HAB.out _ rfl, HBB.out _ rfl⟩ ?_
  rotate_left 1
  ·intro w hSw; (try dsimp only at hSw); go_simp; (first | done | with_reducible rfl)
  try simp only [Act.put, qI, qX, qY]
  refine anyT_take (i := 4) (v := ?_) (by simp only [qA, qS, qZ]; rfl) (by kernel_rfl) (by kernel_rfl) (by kernel_rfl) (by kernel_rfl) (fun _ _ _ h => h) (Or.inl ⟨by rfl, ?_⟩) ⟨HAB.out _ rfl, HBB.out _ rfl⟩ ?_
  rotate_left 1
  ·intro w hSw; (try dsimp only at hSw); go_simp; (first | done | with_reducible rfl)
  try simp only [Act.put, qI, qX, qY]
  refine anyT_take (i := 5) (v := ?_) (by simp only [qA, qS, qZ]; rfl) (by kernel_rfl) (by kernel_rfl) (by kernel_rfl) (by kernel_rfl) (fun _ _ _ h => h) (Or.inl ⟨by rfl, ?_⟩) ⟨HAB.out _ rfl, HBB.out _ rfl⟩ ?_
  rotate_left 1
  ·intro w hSw; (try dsimp only at hSw); go_simp; (first | done | with_reducible rfl)
  try simp only [Act.put, qI, qX, qY]
  refine anyT_ready (rs := [6]) (by kernel_rfl) (by simp) ?_
  refine AllReadyT.cons (by simp only [qA, qS, qZ]; rfl) (fun K hK => ?_) AllReadyT.nil
  go_simp
  obtain ⟨X1, hX1⟩ : ∃ X, (W4.alloc (.cells #[.int .i64 a.quote, .slice va a.lists.length vc, .int .i64 0, .slice none 0 0] 37)).drew = X := ⟨_, rfl⟩
  have hsrc : Src Tryz.prog 4 29 (.slice (some ⟨W4.heap.size, 0, none⟩) 1 1) 1 [.int .i64 a.quote, .slice va a.lists.length vc, .int .i64 0, .slice none 0 0] X1 := by rw [← hX1]; exact src_one rowLine W4.drew [.int .i64 a.quote, .slice va a.lists.length vc, .int .i64 0, .slice none 0 0] rfl (by intro u hu; simp at hu; rcases hu with rfl | rfl | rfl | rfl <;> rfl) 1
  have hx41 : Below W4.heap.size W4 X1 := hX1 ▸ ((Below.refl _ _).alloc (Nat.le_refl _) _).drew
  rw [hX1]
  clear hX1
  have hZ4z := lt_of_heap hZ4
  have hB4z := lt_of_heap hB4
  refine hK.out _ _ (HAB.out _ (hx41.block _ hZ4z)) (Or.inr (HBB.out _ (hx41.block _ hB4z))) ?_
  clear hK K
  try simp only [Act.put, qI, qX, qY]
  refine anyT_ready (rs := [7]) (by kernel_rfl) (by simp) ?_
  refine AllReadyT.cons (by simp only [qA, qS, qZ]; rfl) (fun K hK => ?_) AllReadyT.nil
  have hL5 := hL4.below hx41
  have hBX : B + 1 ≤ X1.heap.size := Nat.le_trans hB4z hx41.size
  refine step_append_R (by rfl) _ _ 29 29 (by rfl) rowLine eltLn (B + 1) (.slice na xs.length nc) _ (xs := xs) (ys := [(frameA a, none)]) (news := [.int .i64 a.quote, .slice va a.lists.length vc, .int .i64 0, .slice none 0 0]) (by rfl) (by rfl) hL5.row hBX hsrc (NewsR.one rfl ⟨_, _, by rw [HN.out]; rfl, HV4.out.below (rdOf_stable _) hx41, SliceR.nil _ _ _ _ _ _, rfl, fun b hb => by cases hb⟩) (by simp; omega) ?_
  intro v6 y hR6 hBl6 hG6 hO6
  obtain ⟨va6, vc6, hv6⟩ := hR6.slice
  have hlen6 : (xs ++ [(frameA a, none)]).length = xs.length + 1 := by simp
  rw [hlen6] at hv6; clear hlen6
  subst hv6
  have hZ6 : y.heap[w.heap.size]? = W4.heap[w.heap.size]? := (hG6.block _ (Nat.lt_of_lt_of_le hZ4z hx41.size) (fun e => Nat.lt_irrefl _ (HL.out.lt _ e.symm))).trans (hx41.block _ hZ4z)
  have hB6 : y.heap[B]? = W4.heap[B]? := (hBl6.block _ (Nat.lt_succ_self _)).trans (hx41.block _ hB4z)
  refine hK.out _ _ (HAB.out _ hZ6) (Or.inr (HBB.out _ hB6)) ?_
  clear hK K
  try simp only [Act.put, qI, qX, qY]
  refine anyT_takeA (i := 8) (v := ?_) (by simp only [qA, qS, qZ]; rfl) (by kernel_rfl) (by kernel_rfl) (by kernel_rfl) (by kernel_rfl) (fun _ _ _ h => h) (Or.inl ⟨by rfl, ?_⟩) (HAB.out _ hZ6) (Or.inr (HBB.out _ hB6)) ?_
  rotate_left 1
  ·intro w hSw; (try dsimp only at hSw); go_simp; (first | done | with_reducible rfl)
  try simp only [Act.put, qI, qX, qY]
  refine anyT_takeA (i := 9) (v := ?_) (by simp only [qA, qS, qZ]; rfl) (by kernel_rfl) (by kernel_rfl) (by kernel_rfl) (by kernel_rfl) (fun _ _ _ h => h) (Or.inl ⟨by rfl, ?_⟩) (HAB.out _ hZ6) (Or.inr (HBB.out _ hB6)) ?_
  rotate_left 1
  ·intro w hSw; (try dsimp only at hSw); go_simp; (first | done | with_reducible rfl)
  try simp only [Act.put, qI, qX, qY]
  obtain ⟨p6, f6⟩ := blk (hB6.trans hB4)
  refine anyT_ready (rs := [10]) (by kernel_rfl) (by simp) ?_
  refine AllReadyT.cons (by simp only [qA, qS, qZ]; rfl) (fun K hK => ?_) AllReadyT.nil
  go_simp
  have hneZ : w.heap.size ≠ B := Nat.ne_of_gt hBz
  refine hK.out _ _ (HAB.out _ ((Below.heap_setCell y ⟨B, 6, none⟩ (.slice va6 (xs.length + 1) vc6) _ hneZ).trans hZ6)) (Or.inl (by rfl)) ?_
  clear hK K
  refine anyT_done (by kernel_rfl) ?_ _
  refine NoPanic.normal ?_
  have hL6 : LnsR (B + 1) y (.slice va6 (xs.length + 1) vc6) (xs ++ [(frameA a, none)]) := hL5.app hR6
  have hk6 : KeepT B w y := ((KeepT.of hx4).trans (KeepT.of hx41)).trans (KeepT.lines hL5 hG6)
  have hI6 := hk6.row (by decide) (by decide) HI.out
  obtain ⟨W7, hW7⟩ : ∃ X, y.setCell ⟨B, 6, none⟩ (.slice va6 (xs.length + 1) vc6) = X := ⟨_, rfl⟩
  rw [hW7]
  have hB7 : W7.heap[B]? = some (.cells #[.int .i64 a.quote, .slice la a.lists.length lc, .int .i64 a.kind, .slice none 0 0, .int .i64 a.bits, .string ⟨a.href.toArray⟩, .slice va6 (xs.length + 1) vc6, .int .i64 s.cells, .bool s.opn, .int .i64 s.spot, .int .i64 s.pos.line, .int .i64 s.pos.col] 74) := hW7 ▸ setCell_heap (hB6.trans hB4) _
  have hk7 : KeepT B w W7 := hW7 ▸ hk6.trans (KeepT.set y 6 _)
  have hL7 : LnsR (B + 1) W7 (.slice va6 (xs.length + 1) vc6) (xs ++ [(frameA a, none)]) := hW7 ▸ hL6.stable ((Keeps.refl _ _).set (Nat.not_succ_le_self B) _)
  have hI7 : IntsR true W7 (fun b => B < b) (.slice la a.lists.length lc) a.lists := hW7 ▸ hI6.stable (rdOf_stable _) ((Keeps.refl _ _).set (Nat.lt_irrefl B) _) (fun _ h _ => h)
  have HL7 := Lib.hid hL7
  have HI7 := Lib.hid hI7
  have HK7 := Lib.hid hk7
  have HB7 := Lib.hid hB7
  obtain ⟨p7, f7⟩ := blk hB7
  have hsp : s.spot = 1 ∨ s.spot ≠ 1 := by omega
  clear hW7 hL6 hk6 hI6 hL7 hI7 hk7 hB7 hR6 hBl6 hG6 hO6 hZ6 hB6 p6 f6 hL5 hL4 hB4 hZ4 hx4 hx41 hsrc
  rcases hsp with hsp | hsp
  ·have hb1 : (s.spot == 1) = true := by simpa using hsp
   rw [hsp] at p7
   go_wp2_with fail
   go_returns
   have e : beginV a s = ⟨s.lines ++ [frameA a], s.cells, true, 2, ⟨xs.length, 0⟩⟩ := by unfold beginV; rw [if_pos hsp, if_pos hsp, show s.lines.length = xs.length by rw [← HX.out, List.length_map]]
   have hS := (((SetB.one B W7 8 (.bool true)).trans (SetB.one B _ 9 (.int .i64 2))).trans (SetB.one B _ 10 (.int .i64 (xs.length : Int)))).trans (SetB.one B _ 11 (.int .i64 0))
   rw [e]
   exact ⟨⟨_, rfl⟩, VwR.turn HL7.out hS.blk (Nat.le_of_eq hS.size.symm) (setCell_heap (setCell_heap (setCell_heap (setCell_heap HB7.out _) _) _) _) HI7.out (by simp [HX.out]), HK7.out.trans hS.keep⟩
  ·have hb1 : (s.spot == 1) = false := by simpa using hsp
   go_wp2_with fail
   go_returns
   have e : beginV a s = ⟨s.lines ++ [frameA a], s.cells, true, s.spot, s.pos⟩ := by unfold beginV; rw [if_neg hsp, if_neg hsp]
   have hS := SetB.one B W7 8 (.bool true)
   rw [e]
   exact ⟨⟨_, rfl⟩, VwR.turn HL7.out hS.blk (Nat.le_of_eq hS.size.symm) (setCell_heap HB7.out _) HI7.out (by simp [HX.out]), HK7.out.trans hS.keep⟩
set_option maxRecDepth 100000 in
set_option maxHeartbeats 4000000 in
theorem met_any (B : Nat) (a : Aro) (lv : Value) (s : VSt) (w : World) (h : VwR B w a lv s) (ho : OpW s) (hc : s.lines.length ≤ 10000000) :
  Calls Tryz.prog 93 #[.pointer (some ⟨B, 0, none⟩)] w fun e w' => (∃ u, e = .returned u) ∧ VwR B w' a lv (metV s) ∧ KeepT B w w' := by
 have h0 := h
 obtain ⟨lns, xs, hB, hI, hL, hx⟩ := h
 have hBz := lt_of_heap hB
 by_cases hs : s.spot ≠ 0
 ·have e : metV s = s := by unfold metV; rw [if_pos hs]
  have hb0 : (s.spot != 0) = true := by simpa using hs
  unfold walkC at hB
  obtain ⟨p1, f1⟩ := blk hB
  have H0 := Lib.hid h0
  clear hI hL hx hB h0 hs
  go_enter Tryz.func93, Tryz.ntmps93
  go_wp2_with fail
  go_returns
  rw [e]
  exact ⟨⟨_, rfl⟩, H0.out, KeepT.refl _ _⟩
 have hs0 : s.spot = 0 := by omega
 by_cases hop : s.opn = true
 ·obtain ⟨m, l, hml⟩ := snoc_of (ho.some hop)
  obtain ⟨xs0, z, rfl⟩ : ∃ xs0 z, xs = xs0 ++ [z] := by
   have hne : xs ≠ [] := fun e => by subst e; rw [hml] at hx; simp at hx
   exact ⟨xs.dropLast, xs.getLast hne, (List.dropLast_concat_getLast hne).symm⟩
  have hxl : s.lines.length = xs0.length + 1 := by rw [← hx]; simp
  obtain ⟨b, o, c, ca, cc, rfl, hc1, hc2, hbn, hbz, ⟨cs, hbh, hbs⟩, d3, hCR, _, _⟩ := hL.last
  have hlast : (s.lines.getLastD default).cells = z.1.cells := by rw [← hx]; simp [List.getLastD_eq_getLast?]
  have e : metV s = { s with spot := 2, pos := ⟨(xs0.length : Int), (z.1.cells.length : Int)⟩ } := by
   unfold metV
   rw [if_neg hs, if_pos hop, hlast, hxl]
   simp
  obtain ⟨hcl1, hcl2⟩ : z.1.cells.length ≤ cc ∧ cc ≤ maxLen := ⟨(SliceR.len hCR).2.1, (SliceR.len hCR).2.2⟩
  have HB := Lib.hid hB
  have HI := Lib.hid hI
  have HL := Lib.hid hL
  have HX := Lib.hid hx
  unfold walkC at hB
  rw [hs0, hop] at hB
  obtain ⟨p1, f1⟩ := blk hB
  obtain ⟨pb, fb⟩ := blk hbh
  have hxc : xs0.length ≤ 10000000 := by omega
  have i0 : (0 : Int) ≤ (xs0.length : Int) := Int.natCast_nonneg _
  clear hI hL hx hB hml hxl hlast hc hs hs0 hop hCR hbh hbs hc1 hc2 pb h0 ho
  go_enter Tryz.func93, Tryz.ntmps93
  go_wp2_with fail
  go_returns
  have hS := ((SetB.one B w 9 (.int .i64 2)).trans (SetB.one B _ 10 (.int .i64 (xs0.length : Int)))).trans (SetB.one B _ 11 (.int .i64 (z.1.cells.length : Int)))
  rw [e]
  exact ⟨⟨_, rfl⟩, VwR.turn HL.out hS.blk (Nat.le_of_eq hS.size.symm) (setCell_heap (setCell_heap (setCell_heap HB.out _) _) _) HI.out HX.out, hS.keep⟩
 ·have hopf : s.opn = false := by simpa using hop
  have e : metV s = { s with spot := 1 } := by unfold metV; rw [if_neg hs, if_neg hop]
  have HB := Lib.hid hB
  have HI := Lib.hid hI
  have HL := Lib.hid hL
  have HX := Lib.hid hx
  unfold walkC at hB
  rw [hs0, hopf] at hB
  obtain ⟨p1, f1⟩ := blk hB
  clear hI hL hx hB hs hs0 hop hopf h0 ho
  go_enter Tryz.func93, Tryz.ntmps93
  go_wp2_with fail
  go_returns
  have hS := SetB.one B w 9 (.int .i64 1)
  rw [e]
  exact ⟨⟨_, rfl⟩, VwR.turn HL.out hS.blk (Nat.le_of_eq hS.size.symm) (setCell_heap HB.out _) HI.out HX.out, hS.keep⟩
end Go.Proofs.YtjpgffihafknlaaGreatDoor
namespace Go.Proofs.YtjpgffihafknlaaGreatDoor
open Go.RowKit
open Go.Proofs.Qw
attribute [local go_sem] Oper.semAt_some
set_option maxRecDepth 100000 in
set_option maxHeartbeats 4000000 in
theorem put_any (B : Nat) (a : Aro) (lv : Value) (s : VSt) (c : Int) (w : World) (h : VwR B w a lv s) (ho : OpW s) (hc : capV s ≤ 10000000) (hl : a.lists.length ≤ 1000000) :
  Calls Tryz.prog 94 #[.pointer (some ⟨B, 0, none⟩), .int .i32 c] w fun e w' => (∃ u, e = .returned u) ∧ VwR B w' a lv (putV a c s) ∧ KeepT B w w' := by
 have h0 := h
 have hcl : capV s ≤ 10000000 := hc
 obtain ⟨s1, hs1⟩ : ∃ t, (if s.opn = true then s else beginV a s) = t := ⟨_, rfl⟩
 have hput : putV a c s = addV a c s1 := by unfold putV; rw [hs1]
 have hs1l : s1.lines ≠ [] := by rw [← hs1]; split; exact ho.some (by assumption); simp [beginV]
 have hs1c : capV s1 ≤ 10000001 := by rw [← hs1]; split; omega; rw [cap_begin]; omega
 have HB0 : Hid (s.opn = false → ∀ W, W = w → Calls Tryz.prog 64 #[.pointer (some ⟨B, 0, none⟩)] W fun e w' => (∃ u, e = .returned u) ∧ VwR B w' a lv s1 ∧ KeepT B w w') := Lib.hid fun hf W e => by
  subst e
  rw [hf, if_neg (by simp)] at hs1
  rw [← hs1]
  exact begin_any B a lv s W h0 (by unfold capV at hcl; omega) hl
 have HB1 : Hid (s.opn = true → VwR B w a lv s1) := Lib.hid fun ht => by rw [← hs1, if_pos ht]; exact h0
 have HP := Lib.hid hput
 have hs1w : s1.cells = sizeL s1.lines := by rw [← hs1]; split; exact ho.cells; exact (opw_begin a ho).cells
 have HS1 := Lib.hid (And.intro hs1l (And.intro hs1c hs1w))
 obtain ⟨o, hop⟩ : ∃ o, s.opn = o := ⟨_, rfl⟩
 rw [hop] at HB0 HB1
 obtain ⟨lns, xs, hB, hI, hL, hx⟩ := h
 have hBz := lt_of_heap hB
 unfold walkC at hB
 rw [hop] at hB
 obtain ⟨p1, f1⟩ := blk hB
 clear hI hL hx hB hput hs1 hs1l hs1c hs1w h0 hcl ho hc hl hop
 go_enter Tryz.func94, Tryz.ntmps94
 go_upto_if 9 with fail
 go_cut [11] from 10 to 11 (fun _ wx => VwR B wx a lv s1 ∧ KeepT B w wx)
 case first => as_aux_lemma =>
  cases o
  ·have HB2 := Lib.hid (HB0.out rfl)
   go_wp2_with (go_at_call 64; refine (HB2.out _ rfl).mono ?_; rintro e w2 ⟨⟨u, rfl⟩, hv2, hk2⟩)
   go_meet
   case rel => exact ⟨hv2, hk2⟩
  ·have h1 := HB1.out rfl
   go_wp2_with fail
   go_meet
   case rel => exact ⟨h1, KeepT.refl _ _⟩
 case rest =>
 obtain ⟨hv, hk⟩ := hcut
 clear p1 f1 HB0 HB1
 obtain ⟨lns, xs, hB, hI, hL, hx⟩ := hv
 obtain ⟨m, l, hml⟩ := snoc_of HS1.out.1
 obtain ⟨xs0, z, rfl⟩ : ∃ xs0 z, xs = xs0 ++ [z] := by
  have hne : xs ≠ [] := fun e => by subst e; rw [hml] at hx; simp at hx
  exact ⟨xs.dropLast, xs.getLast hne, (List.dropLast_concat_getLast hne).symm⟩
 have hxz : s1.lines = xs0.map (·.1) ++ [z.1] := by rw [← hx]; simp
 have hxc : xs0.length ≤ 10000001 ∧ z.1.cells.length ≤ 10000001 ∧ s1.cells ≤ 10000001 := by
  have h1 := HS1.out.2.1
  unfold capV at h1
  have h2 : s1.lines.length = xs0.length + 1 := by rw [hxz]; simp
  have h3 := HS1.out.2.2
  rw [hxz] at h3
  unfold sizeL at h3
  simp only [List.map_append, List.sum_append, List.map_cons, List.map_nil, List.sum_cons, List.sum_nil] at h3
  exact ⟨by omega, by omega, by omega⟩
 obtain ⟨b, q, cp, ca, cc, rfl, hc1, hc2, hbn, hbz, ⟨cs, hbh, hbs⟩, d3, hCR, hzo, hzt⟩ := hL.last
 obtain ⟨la, lc, rfl⟩ := hI.slice
 obtain ⟨hcl1, hcl2⟩ : z.1.cells.length ≤ cc ∧ cc ≤ maxLen := ⟨(SliceR.len hCR).2.1, (SliceR.len hCR).2.2⟩
 have HB := Lib.hid hB
 have HI := Lib.hid hI
 have HL := Lib.hid hL
 have HX := Lib.hid hx
 have HZ := Lib.hid (And.intro hzo hzt)
 have HCR := Lib.hid hCR
 have HBH := Lib.hid (And.intro hbh (And.intro hbz hbn))
 have HK := Lib.hid hk
 have HXZ := Lib.hid hxz
 unfold walkC at hB
 obtain ⟨p1, f1⟩ := blk hB
 have i0 : (0 : Int) ≤ (xs0.length : Int) := Int.natCast_nonneg _
 unfold maxLen at hc2 hcl2
 clear hI hL hx hB hml hxz hCR hzo hzt hbh hbs hbn hbz hk
 go_upto_region 2 with fail
 go_quiet (fail)
 obtain ⟨V, hVe⟩ : ∃ V, wc.drewN nq = V := ⟨_, rfl⟩
 have hV : Below wc.heap.size wc V := hVe ▸ drewN_below (Below.refl _ _)
 rw [hVe]
 clear hVe p1 f1
 have hcellB : wc.heap[B]? = some (.cells #[.int .i64 a.quote, .slice la a.lists.length lc, .int .i64 a.kind, .slice none 0 0, .int .i64 a.bits, .string ⟨a.href.toArray⟩, .slice (some ⟨b, q, none⟩) (xs0.length + 1) cp, .int .i64 s1.cells, .bool s1.opn, .int .i64 s1.spot, .int .i64 s1.pos.line, .int .i64 s1.pos.col] 74) := by
  have := HB.out
  exact this
 have hBz : B < wc.heap.size := lt_of_heap hcellB
 have HAB : Hid (∀ X : World, X.heap[B]? = wc.heap[B]? → X.cell? ⟨B, 4, none⟩ = some (.int .i64 a.bits) ∧ X.cell? ⟨B, 5, none⟩ = some (.string ⟨a.href.toArray⟩)) := Lib.hid fun X hX => ⟨by rw [(blk (hX.trans hcellB)).1 4]; rfl, by rw [(blk (hX.trans hcellB)).1 5]; rfl⟩
 have HBB : Hid (∀ X : World, X.heap[b]? = wc.heap[b]? → X.cell? ⟨b, q + xs0.length * 4 + 3, none⟩ = some (.slice ca z.1.cells.length cc)) := Lib.hid fun X hX => (World.cell?_of_block hX).trans d3
 have HFB : Hid (∀ X : World, X.heap[b]? = wc.heap[b]? → ∀ k, X.frozen? ⟨b, k, none⟩ = false) := Lib.hid fun X hX k => frozen_of_heap (hX.trans HBH.out.1)
 have h4B := hV.block _ hBz
 have h4b := hV.block _ HBH.out.2.1
 go_upto_region 3 with fail
 refine wp_region_T (fun X => X.cell? ⟨B, 4, none⟩ = some (.int .i64 a.bits) ∧ X.cell? ⟨B, 5, none⟩ = some (.string ⟨a.href.toArray⟩)) (fun X => X.cell? ⟨b, q + xs0.length * 4 + 3, none⟩ = some (.slice ca z.1.cells.length cc)) 21 (by kernel_rfl) ?_
 refine anyT_take (i := 0) (v := ?_) (by simp only [qA, qS, qZ]; rfl) (by kernel_rfl) (by kernel_rfl) (by kernel_rfl) (by kernel_rfl) (fun _ _ _ h => h) (Or.inl ⟨by rfl, ?_⟩) ⟨HAB.out _ h4B, HBB.out _ h4b⟩ ?_
 rotate_left 1
 ·intro w hSw; (try dsimp only at hSw); go_simp; (first | done | with_reducible rfl)
 try simp only [Act.put, qI, qX, qY]
 refine anyT_take (i := 1) (v := ?_) (by simp only [qA, qS, qZ]; rfl) (by kernel_rfl) (by kernel_rfl) (by kernel_rfl) (by kernel_rfl) (fun _ _ _ h => h) (Or.inl ⟨by rfl, ?_⟩) ⟨HAB.out _ h4B, HBB.out _ h4b⟩ ?_
 rotate_left 1
 ·intro w hSw; (try dsimp only at hSw); go_simp; (first | done | with_reducible rfl)
 try simp only [Act.put, qI, qX, qY]
 refine anyT_take (i := 2) (v := ?_) (by simp only [qA, qS, qZ]; rfl) (by kernel_rfl) (by kernel_rfl) (by kernel_rfl) (by kernel_rfl) (fun _ _ _ h => h) (Or.inl ⟨by rfl, ?_⟩) ⟨HAB.out _ h4B, HBB.out _ h4b⟩ ?_
 rotate_left 1
 ·intro w hSw; (try dsimp only at hSw); go_simp; (first | done | with_reducible rfl)
 try simp only [Act.put, qI, qX, qY]
 refine anyT_take (i := 3) (v := ?_) (by simp only [qA, qS, qZ]; rfl) (by kernel_rfl) (by kernel_rfl) (by kernel_rfl) (by kernel_rfl) (fun _ _ _ h => h) (Or.inl ⟨by rfl, ?_⟩) ⟨HAB.out _ h4B, HBB.out _ h4b⟩ ?_
 rotate_left 1
 ·intro w hSw; (try dsimp only at hSw); go_simp; (first | done | with_reducible rfl)
 try simp only [Act.put, qI, qX, qY]
 refine anyT_take (i := 4) (v := ?_) (by simp only [qA, qS, qZ]; rfl) (by kernel_rfl) (by kernel_rfl) (by kernel_rfl) (by kernel_rfl) (fun _ _ _ h => h) (Or.inl ⟨by rfl, ?_⟩) ⟨HAB.out _ h4B, HBB.out _ h4b⟩ ?_
 rotate_left 1
 ·intro w hSw; (try dsimp only at hSw); go_simp; (first | done | with_reducible rfl)
 try simp only [Act.put, qI, qX, qY]
 refine anyT_take (i := 5) (v := ?_) (by simp only [qA, qS, qZ]; rfl) (by kernel_rfl) (by kernel_rfl) (by kernel_rfl) (by kernel_rfl) (fun _ _ _ h => h) (Or.inl ⟨by rfl, ?_⟩) ⟨HAB.out _ h4B, HBB.out _ h4b⟩ ?_
 rotate_left 1
 ·intro w hSw; (try dsimp only at hSw); go_simp; (first | done | with_reducible rfl)
 try simp only [Act.put, qI, qX, qY]
 refine anyT_take (i := 6) (v := ?_) (by simp only [qA, qS, qZ]; rfl) (by kernel_rfl) (by kernel_rfl) (by kernel_rfl) (by kernel_rfl) (fun _ _ _ h => h) (Or.inl ⟨by rfl, ?_⟩) ⟨HAB.out _ h4B, HBB.out _ h4b⟩ ?_
 rotate_left 1
 ·intro w hSw; (try dsimp only at hSw); go_simp; (first | done | with_reducible rfl)
 try simp only [Act.put, qI, qX, qY]
 refine anyT_take (i := 7) (v := ?_) (by simp only [qA, qS, qZ]; rfl) (by kernel_rfl) (by kernel_rfl) (by kernel_rfl) (by kernel_rfl) (fun _ _ _ h => h) (Or.inl ⟨by rfl, ?_⟩) ⟨HAB.out _ h4B, HBB.out _ h4b⟩ ?_
 rotate_left 1
 ·intro w hSw; (try dsimp only at hSw); go_simp; (first | done | with_reducible rfl)
 try simp only [Act.put, qI, qX, qY]
 refine anyT_take (i := 8) (v := ?_) (by simp only [qA, qS, qZ]; rfl) (by kernel_rfl) (by kernel_rfl) (by kernel_rfl) (by kernel_rfl) (fun _ _ _ h => h) (Or.inl ⟨by rfl, ?_⟩) ⟨HAB.out _ h4B, HBB.out _ h4b⟩ ?_
 rotate_left 1
 ·intro w hSw; (try dsimp only at hSw); go_simp; (first | done | with_reducible rfl)
 try simp only [Act.put, qI, qX, qY]
 refine anyT_take (i := 9) (v := ?_) (by simp only [qA, qS, qZ]; rfl) (by kernel_rfl) (by kernel_rfl) (by kernel_rfl) (by kernel_rfl) (fun _ _ _ h => h) (Or.inl ⟨by rfl, ?_⟩) ⟨HAB.out _ h4B, HBB.out _ h4b⟩ ?_
 rotate_left 1
 ·intro w hSw; (try dsimp only at hSw); go_simp; (first | done | with_reducible rfl)
 try simp only [Act.put, qI, qX, qY]
 refine anyT_take (i := 10) (v := ?_) (by simp only [qA, qS, qZ]; rfl) (by kernel_rfl) (by kernel_rfl) (by kernel_rfl) (by kernel_rfl) (fun _ _ _ h => h) (Or.inl ⟨by rfl, ?_⟩) ⟨HAB.out _ h4B, HBB.out _ h4b⟩ ?_
 rotate_left 1
 ·intro w hSw; (try dsimp only at hSw); go_simp; (first | done | with_reducible rfl)
 try simp only [Act.put, qI, qX, qY]
 refine anyT_take (i := 11) (v := ?_) (by simp only [qA, qS, qZ]; rfl) (by kernel_rfl) (by kernel_rfl) (by kernel_rfl) (by kernel_rfl) (fun _ _ _ h => h) (Or.inl ⟨by rfl, ?_⟩) ⟨HAB.out _ h4B, HBB.out _ h4b⟩ ?_
 rotate_left 1
 ·intro w hSw; (try dsimp only at hSw); go_simp; (first | done | with_reducible rfl)
 try simp only [Act.put, qI, qX, qY]
 refine anyT_take (i := 12) (v := ?_) (by simp only [qA, qS, qZ]; rfl) (by kernel_rfl) (by kernel_rfl) (by kernel_rfl) (by kernel_rfl) (fun _ _ _ h => h) (Or.inl ⟨by rfl, ?_⟩) ⟨HAB.out _ h4B, HBB.out _ h4b⟩ ?_
 rotate_left 1
 ·intro w hSw; (try dsimp only at hSw); go_simp; (first | done | with_reducible rfl)
 try simp only [Act.put, qI, qX, qY]
 refine anyT_take (i := 13) (v := ?_) (by simp only [qA, qS, qZ]; rfl) (by kernel_rfl) (by kernel_rfl) (by kernel_rfl) (by kernel_rfl) (fun _ _ _ h => h) (Or.inl ⟨by rfl, ?_⟩) ⟨HAB.out _ h4B, HBB.out _ h4b⟩ ?_
 rotate_left 1
 ·intro w hSw; (try dsimp only at hSw); go_simp; (first | done | with_reducible rfl)
 try simp only [Act.put, qI, qX, qY]
 refine anyT_take (i := 14) (v := ?_) (by simp only [qA, qS, qZ]; rfl) (by kernel_rfl) (by kernel_rfl) (by kernel_rfl) (by kernel_rfl) (fun _ _ _ h => h) (Or.inl ⟨by rfl, ?_⟩) ⟨HAB.out _ h4B, HBB.out _ h4b⟩ ?_
 rotate_left 1
 ·intro w hSw; (try dsimp only at hSw); go_simp; (first | done | with_reducible rfl)
 try simp only [Act.put, qI, qX, qY]
 refine anyT_take (i := 15) (v := ?_) (by simp only [qA, qS, qZ]; rfl) (by kernel_rfl) (by kernel_rfl) (by kernel_rfl) (by kernel_rfl) (fun _ _ _ h => h) (Or.inl ⟨by rfl, ?_⟩) ⟨HAB.out _ h4B, HBB.out _ h4b⟩ ?_
 rotate_left 1
 ·intro w hSw; (try dsimp only at hSw); go_simp; (first | done | with_reducible rfl)
 try simp only [Act.put, qI, qX, qY]
 refine anyT_take (i := 16) (v := ?_) (by simp only [qA, qS, qZ]; rfl) (by kernel_rfl) (by kernel_rfl) (by kernel_rfl) (by kernel_rfl) (fun _ _ _ h => h) (Or.inl ⟨by rfl, ?_⟩) ⟨HAB.out _ h4B, HBB.out _ h4b⟩ ?_
 rotate_left 1
 ·intro w hSw; (try dsimp only at hSw); go_simp; (first | done | with_reducible rfl)
 try simp only [Act.put, qI, qX, qY]
 refine anyT_ready (rs := [17]) (by kernel_rfl) (by simp) ?_
 refine AllReadyT.cons (by simp only [qA, qS, qZ]; rfl) (fun K hK => ?_) AllReadyT.nil
 go_simp
 obtain ⟨X1, hX1⟩ : ∃ X, (V.alloc (.cells #[.int .i32 c, .int .i64 a.bits, .string ⟨a.href.toArray⟩] 66)).drew = X := ⟨_, rfl⟩
 have hsrc : Src Tryz.prog 3 35 (.slice (some ⟨V.heap.size, 0, none⟩) 1 1) 1 [.int .i32 c, .int .i64 a.bits, .string ⟨a.href.toArray⟩] X1 := by rw [← hX1]; exact src_one rowCell V.drew [.int .i32 c, .int .i64 a.bits, .string ⟨a.href.toArray⟩] rfl (by intro u hu; simp at hu; rcases hu with rfl | rfl | rfl <;> rfl) 1
 have hx41 : Below wc.heap.size wc X1 := hX1 ▸ (hV.alloc hV.size _).drew
 rw [hX1]
 clear hX1
 have h5B := hx41.block _ hBz
 have h5b := hx41.block _ HBH.out.2.1
 refine hK.out _ _ (HAB.out _ h5B) (Or.inr (HBB.out _ h5b)) ?_
 clear hK K
 try simp only [Act.put, qI, qX, qY]
 refine anyT_ready (rs := [18]) (by kernel_rfl) (by simp) ?_
 refine AllReadyT.cons (by simp only [qA, qS, qZ]; rfl) (fun K hK => ?_) AllReadyT.nil
 have hL5 := HL.out.below hx41
 have hBX : B + 1 ≤ X1.heap.size := Nat.le_trans hBz hx41.size
 refine step_append_R (by rfl) _ _ 35 35 (by rfl) rowCell eltCell (B + 1) (.slice ca z.1.cells.length cc) _ (xs := z.1.cells) (ys := [⟨c, a.bits, a.href⟩]) (news := [.int .i32 c, .int .i64 a.bits, .string ⟨a.href.toArray⟩]) (by rfl) (by rfl) (HCR.out.below (rdOf_stable _) hx41) hBX hsrc (NewsR.one rfl rfl) (by simp; omega) ?_
 intro v6 y hR6 hBl6 hG6 hO6
 obtain ⟨va6, vc6, hv6⟩ := hR6.slice
 have hlen6 : (z.1.cells ++ [(⟨c, a.bits, a.href⟩ : Cel)]).length = z.1.cells.length + 1 := by simp
 rw [hlen6] at hv6
 clear hlen6
 subst hv6
 have hbB : b ≠ B := by have := HBH.out.2.2; omega
 have h6B : y.heap[B]? = wc.heap[B]? := (hBl6.block _ (Nat.lt_succ_self _)).trans h5B
 have h6b : y.heap[b]? = wc.heap[b]? := (hG6.block _ (Nat.lt_of_lt_of_le HBH.out.2.1 hx41.size) (fun e => by
  obtain ⟨_, cs2, h2⟩ := HZ.out.2 b (HZ.out.1.symm.trans e.symm)
  rw [HBH.out.1] at h2
  cases h2)).trans h5b
 refine hK.out _ _ (HAB.out _ h6B) (Or.inr (HBB.out _ h6b)) ?_
 clear hK K
 try simp only [Act.put, qI, qX, qY]
 refine anyT_takeA (i := 19) (v := ?_) (by simp only [qA, qS, qZ]; rfl) (by kernel_rfl) (by kernel_rfl) (by kernel_rfl) (by kernel_rfl) (fun _ _ _ h => h) (Or.inl ⟨by rfl, ?_⟩) (HAB.out _ h6B) (Or.inr (HBB.out _ h6b)) ?_
 rotate_left 1
 ·intro w hSw; (try dsimp only at hSw); go_simp; (first | done | with_reducible rfl)
 try simp only [Act.put, qI, qX, qY]
 refine anyT_takeA (i := 20) (v := ?_) (by simp only [qA, qS, qZ]; rfl) (by kernel_rfl) (by kernel_rfl) (by kernel_rfl) (by kernel_rfl) (fun _ _ _ h => h) (Or.inl ⟨by rfl, ?_⟩) (HAB.out _ h6B) (Or.inr (HBB.out _ h6b)) ?_
 rotate_left 1
 ·intro w hSw; (try dsimp only at hSw); go_simp; (first | done | with_reducible rfl)
 try simp only [Act.put, qI, qX, qY]
 have p6 := HBB.out _ h6b
 have f6 := HFB.out _ h6b
 refine anyT_ready (rs := [21]) (by kernel_rfl) (by simp) ?_
 refine AllReadyT.cons (by simp only [qA, qS, qZ]; rfl) (fun K hK => ?_) AllReadyT.nil
 go_simp
 have h7B : (y.setCell ⟨b, q + xs0.length * 4 + 3, none⟩ (.slice va6 (z.1.cells.length + 1) vc6)).heap[B]? = wc.heap[B]? := (Below.heap_setCell y ⟨b, q + xs0.length * 4 + 3, none⟩ (.slice va6 (z.1.cells.length + 1) vc6) _ (Ne.symm hbB)).trans h6B
 refine hK.out _ _ (HAB.out _ h7B) (Or.inl (by rfl)) ?_
 clear hK K
 refine anyT_done (by kernel_rfl) ?_ _
 refine NoPanic.normal ?_
 have hL7 := hL5.put HZ.out.1 hG6 hR6 (by simp) hO6
 have hk6 : KeepT B wc y := (KeepT.of hx41).trans (KeepT.cells HZ.out.1 (fun d hd => by
  obtain ⟨h1, cs2, h2⟩ := HZ.out.2 d hd
  exact ⟨h1, cs2, (hx41.block _ (lt_of_heap h2)).trans h2⟩) hG6)
 have hk7 := hk6.trans (KeepT.line y (h6b.trans HBH.out.1) (by have := HBH.out.2.2; omega) (q + xs0.length * 4 + 3) (.slice va6 (z.1.cells.length + 1) vc6))
 have hI7 := hk7.row (by decide) (by decide) HI.out
 obtain ⟨W7, hW7⟩ : ∃ X, y.setCell ⟨b, q + xs0.length * 4 + 3, none⟩ (.slice va6 (z.1.cells.length + 1) vc6) = X := ⟨_, rfl⟩
 rw [hW7] at h7B hL7 hk7 hI7 ⊢
 have hB7 := h7B.trans hcellB
 have HB7 := Lib.hid hB7
 have HL7 := Lib.hid hL7
 have HK7 := Lib.hid (HK.out.trans hk7)
 have HI7 := Lib.hid hI7
 obtain ⟨p7, f7⟩ := blk hB7
 have HE : Hid (addV a c s1 = ⟨xs0.map (·.1) ++ [{ z.1 with cells := z.1.cells ++ [⟨c, a.bits, a.href⟩] }], s1.cells + 1, s1.opn, s1.spot, s1.pos⟩) := Lib.hid (by unfold addV; rw [HXZ.out, lastD_snoc])
 clear hW7 h7B hL7 hk7 hI7 hB7 hk6 h6B h6b p6 f6 hR6 hBl6 hG6 hO6 hL5 hBX hsrc h5B h5b hx41 h4B h4b hV hcellB d3 hbB
 go_wp2_with fail
 go_returns
 have hS := SetB.one B W7 7 (.int .i64 ((s1.cells : Int) + 1))
 rw [HP.out, HE.out]
 exact ⟨⟨_, rfl⟩, VwR.turn HL7.out hS.blk (Nat.le_of_eq hS.size.symm) (setCell_heap HB7.out _) HI7.out (by simp), HK7.out.trans hS.keep⟩
set_option maxRecDepth 100000 in
set_option maxHeartbeats 4000000 in
theorem box_any (B : Nat) (a : Aro) (lv : Value) (s : VSt) (t : Int) (w : World) (h : VwR B w a lv s) (ha : ArW a) (ht : -100 ≤ t ∧ t ≤ 100) :
  Calls Tryz.prog 103 #[.pointer (some ⟨B, 0, none⟩), .int .i64 t] w fun e w' => (∃ u, e = .returned u) ∧ (∃ lv', VwR B w' (boxA t a) lv' s) ∧ KeepT B w w' := by
 have h0 := h
 obtain ⟨lns, xs, hB, hI, hL, hx⟩ := h
 have hBz := lt_of_heap hB
 obtain ⟨hq0, hq6, hll⟩ := ha
 have HB := Lib.hid hB
 have HL := Lib.hid hL
 have HX := Lib.hid hx
 have H0 := Lib.hid h0
 have HI0 := Lib.hid hI
 obtain ⟨la, lc, rfl⟩ := hI.slice
 unfold walkC at hB
 obtain ⟨p1, f1⟩ := blk hB
 by_cases h6 : t = 6
 ·subst h6
  have e : boxA 6 a = { a with quote := min (a.quote + 1) 6 } := rfl
  clear hI hL hx hB h0 ht hll
  go_enter Tryz.func103, Tryz.ntmps103
  go_wp2_with fail
  go_returns
  have hS := SetB.one B w 0 (.int .i64 (min (a.quote + 1) 6))
  rw [e]
  exact ⟨⟨_, rfl⟩, ⟨_, VwR.turn HL.out hS.blk (Nat.le_of_eq hS.size.symm) (setCell_heap HB.out _) HI0.out HX.out⟩, hS.keep⟩
 have b6 : (t == 6) = false := by simpa using h6
 by_cases h1 : t ≠ 1 ∧ a.lists.length < 6
 ·obtain ⟨h1, hl6⟩ := h1
  have b1 : (t != 1) = true := by simpa using h1
  have e : boxA t a = { a with lists := a.lists ++ [t - 7] } := by unfold boxA; rw [if_neg h6, if_pos ⟨h1, hl6⟩]
  have HCl : Hid (Calls Tryz.prog 62 #[.slice la a.lists.length lc] w fun e w' => ∃ va vc, e = .returned (.slice va a.lists.length vc) ∧ IntsR true w' (fun b => w.heap.size ≤ b) (.slice va a.lists.length vc) a.lists ∧ Below w.heap.size w w') := Lib.hid ((cloneInt_any _ a.lists true w w _ hI (Below.refl _ _) (by omega)).mono fun _ _ ⟨v', h1, h2, h3⟩ => by
   obtain ⟨va, vc, rfl⟩ := h2.slice
   exact ⟨va, vc, h1, h2, h3⟩)
  clear hI hL hx h0 h6 h1 hll
  go_enter Tryz.func103, Tryz.ntmps103
  go_wp2_with (first
   | (go_at_call 62; refine HCl.out.mono ?_; rintro e w2 ⟨va, vc, rfl, hv2, hb2⟩)
   | (at_builtin; go_must (refine wpList_append_R _ rfl _ _ 34 34 rfl rowInt eltInt w.heap.size (.slice va a.lists.length vc) _ (xs := a.lists) (ys := [t - 7]) (news := [.int .i64 (t - 7)]) rfl rfl (hv2.below (rdOf_stable _) ((Below.refl _ _).alloc (Nat.le_refl _) _)) (by have := hb2.size; simp; omega) (src_one rowInt w2 [.int .i64 (t - 7)] rfl (by intro u hu; simp at hu; subst hu; rfl) 1) (NewsR.one rfl rfl) (by simp; omega) ?_); intro v' w3 hR3 hB3 _ _; obtain ⟨va3, vc3, rfl⟩ := hR3.slice; have hx3 : Below w.heap.size w w3 := (hb2.alloc hb2.size _).trans hB3; have hB4 := heap_below hx3 HB.out; unfold walkC at hB4; obtain ⟨q3, g3⟩ := blk hB4))
  go_returns
  have hk3 := KeepT.of (B := B) hx3
  have hlen : (a.lists ++ [t - 7]).length = a.lists.length + 1 := by simp
  rw [hlen] at hR3
  have hS := SetB.one B w3 1 (.slice va3 (a.lists.length + 1) vc3)
  have hL3 := HL.out.below hx3
  rw [e]
  refine ⟨⟨_, rfl⟩, ⟨_, VwR.turn hL3 hS.blk (Nat.le_of_eq hS.size.symm) (setCell_heap hB4 _) (hR3.stable (rdOf_stable _) (Keeps.refl _ _) (fun b hb _ => Nat.lt_of_lt_of_le hBz hb)) HX.out⟩, hk3.trans hS.keep⟩
 ·have e : boxA t a = a := by unfold boxA; rw [if_neg h6, if_neg h1]
  have hcs : (t == 1) = true ∨ ((t != 1) = true ∧ ¬ a.lists.length < 6) := by
   by_cases h2 : t = 1
   ·exact .inl (by simpa using h2)
   ·exact .inr ⟨by simpa using h2, fun h3 => h1 ⟨h2, h3⟩⟩
  clear hI hL hx hB h0 h6 h1 hll
  rcases hcs with h2 | ⟨h2, h3⟩
  ·have h2' : t = 1 := by simpa using h2
   subst h2'
   clear h2
   go_enter Tryz.func103, Tryz.ntmps103
   go_wp2_with fail
   go_returns
   rw [e]
   exact ⟨⟨_, rfl⟩, ⟨_, H0.out⟩, KeepT.refl _ _⟩
  ·go_enter Tryz.func103, Tryz.ntmps103
   go_wp2_with fail
   go_returns
   rw [e]
   exact ⟨⟨_, rfl⟩, ⟨_, H0.out⟩, KeepT.refl _ _⟩
end Go.Proofs.YtjpgffihafknlaaGreatDoor
namespace Go.Proofs.YtjpgffihafknlaaGreatDoor
open Go.RowKit
open Go.Proofs.Qw
attribute [local go_sem] Oper.semAt_some
set_option maxRecDepth 100000 in
set_option maxHeartbeats 4000000 in
theorem within_any (g : Nat) (caps : Array Value) (eg : ∀ args w, (callFunc g args).run Tryz.prog w = .ok (.enter g args) w) (B : Nat) (a : Aro) (lv : Value) (s s' : VSt) (w : World) (h : VwR B w a lv s)
  (hD : ∀ W, Below w.heap.size w W → VwR B W a lv s → Calls Tryz.prog g caps W fun e w' => (∃ u, e = .returned u) ∧ (∃ a' lv', VwR B w' a' lv' s') ∧ KeepT B W w') :
  Calls Tryz.prog 95 #[.pointer (some ⟨B, 0, none⟩), .func (.func g) #[] caps] w fun e w' => (∃ u, e = .returned u) ∧ VwR B w' a lv s' ∧ KeepT B w w' := by
 have h0 := h
 obtain ⟨lns, xs, hB, hI, hL, hx⟩ := h
 have hBz := lt_of_heap hB
 obtain ⟨la, lc, rfl⟩ := hI.slice
 unfold walkC at hB
 obtain ⟨p1, f1⟩ := blk hB
 obtain ⟨W1, hW1⟩ : ∃ W1, w.alloc (.cells #[.int .i64 a.quote, .slice la a.lists.length lc, .int .i64 a.kind, .slice none 0 0, .int .i64 a.bits, .string ⟨a.href.toArray⟩] 72) = W1 := ⟨_, rfl⟩
 have hb1 : Below w.heap.size w W1 := hW1 ▸ (Below.refl _ _).alloc (Nat.le_refl _) _
 have hn1 : W1.heap[w.heap.size]? = some (.cells #[.int .i64 a.quote, .slice la a.lists.length lc, .int .i64 a.kind, .slice none 0 0, .int .i64 a.bits, .string ⟨a.href.toArray⟩] 72) := hW1 ▸ heap_new _ _ rfl
 have HD := Lib.hid (hD W1 hb1 (h0.below hb1))
 have HI := Lib.hid hI
 have HN1 := Lib.hid hn1
 have HB1 := Lib.hid hb1
 have HW1 := Lib.hid hW1
 clear hI hL hx hB hD h0 hW1 hn1 hb1
 go_enter Tryz.func95, Tryz.ntmps95
 go_upto_region 1 with fail
 rw [HW1.out]
 go_upto_region 2 with (go_at_fn g; refine HD.out.mono ?_; rintro e w2 ⟨⟨u, rfl⟩, ⟨a2, lv2, lns2, xs2, hB2, hI2, hL2, hx2⟩, hk2⟩)
 have hk : KeepT B w w2 := (KeepT.of HB1.out).trans hk2
 have hn2 := hk2.heap HN1.out (Nat.ne_of_gt hBz) (by decide) (by decide)
 have hI3 := hk.row (by decide) (by decide) HI.out
 obtain ⟨q2, g2⟩ := blk hn2
 have HB2 := Lib.hid hB2
 unfold walkC at hB2
 obtain ⟨p3, f3⟩ := blk hB2
 have HL2 := Lib.hid hL2
 have HX2 := Lib.hid hx2
 have HK := Lib.hid hk
 have HI3 := Lib.hid hI3
 have hne : ¬ w.heap.size = B := Nat.ne_of_gt hBz
 have hne2 : ¬ B = w.heap.size := Nat.ne_of_lt hBz
 clear p1 f1 hB2 hL2 hx2 hI2 hk hI3 hk2 hn2
 go_wp2_with fail
 go_returns
 have hS := (((((SetB.one B w2 0 (.int .i64 a.quote)).trans (SetB.one B _ 1 (.slice la a.lists.length lc))).trans (SetB.one B _ 2 (.int .i64 a.kind))).trans (SetB.one B _ 3 (.slice none 0 0))).trans (SetB.one B _ 4 (.int .i64 a.bits))).trans (SetB.one B _ 5 (.string ⟨a.href.toArray⟩))
 exact ⟨⟨_, rfl⟩, VwR.turn HL2.out hS.blk (Nat.le_of_eq hS.size.symm) (setCell_heap (setCell_heap (setCell_heap (setCell_heap (setCell_heap (setCell_heap HB2.out _) _) _) _) _) _) HI3.out HX2.out, HK.out.trans hS.keep⟩
def aheadM (l : List Int) (k : Option Nat) : Option Nat := k.map fun k => (flatR (l.take k)).length
set_option maxRecDepth 100000 in
set_option maxHeartbeats 4000000 in
theorem text_any (x : ByteArray) (k : Option Nat) (B : Nat) (a : Aro) (lv : Value) (s : VSt) (w : World) (h : VwR B w a lv s) (ho : OpW s) (hx : x.size ≤ 2000000) (hc : capV s + 2 * x.size ≤ 10000000) (hl : a.lists.length ≤ 1000000) :
  Calls Tryz.prog 92 #[.pointer (some ⟨B, 0, none⟩), .string x, .bool k.isSome, .int .i64 (k.getD 0 : Nat)] w fun e w' => (∃ u, e = .returned u) ∧ VwR B w' a lv (textV a (runesB x) (k.map fun k => (k : Int)) s) ∧ KeepT B w w' := by
 have hBz := h.lt
 have hn := runesB_length x
 have hfl := flatR_len (runesB x)
 have HC : Hid (Calls Tryz.prog 53 #[.string x] w fun e w' => e = .returned (.int .i64 (runesB x).length) ∧ Below w.heap.size w w') := Lib.hid (charsCount_any x w (by omega))
 obtain ⟨F, hF⟩ : ∃ F, flatR (runesB x) = F := ⟨_, rfl⟩
 have HF : Hid (∀ W, Calls Tryz.prog 52 #[.string x] W fun e w' => ∃ fa fc, e = .returned (.slice fa F.length fc) ∧ RunesR true w' (fun b => W.heap.size ≤ b) (.slice fa F.length fc) F ∧ Below W.heap.size W w') := Lib.hid fun W => (flat_any x W (by omega)).mono fun _ _ ⟨v, h1, h2, h3⟩ => by
  rw [hF] at h2
  obtain ⟨fa, fc, rfl⟩ := h2.slice
  exact ⟨fa, fc, h1, h2, h3⟩
 obtain ⟨q, hq⟩ : ∃ q, (flatR ((runesB x).take (k.getD 0))).length = q := ⟨_, rfl⟩
 have HP : Hid (∀ W, Calls Tryz.prog 121 #[.string x, .int .i64 0, .int .i64 (k.getD 0 : Nat)] W fun e w' => ∃ t, e = .returned (.string t) ∧ (∀ W, Calls Tryz.prog 52 #[.string t] W fun e w' => ∃ fa fc, e = .returned (.slice fa q fc) ∧ Below W.heap.size W w') ∧ Below W.heap.size W w') := Lib.hid fun W => (partChars_any x (k.getD 0) W (by omega)).mono fun _ _ ⟨t, h1, h2, h3, h4⟩ => by
  refine ⟨t, h1, fun W' => (flat_any t W' (by omega)).mono fun _ _ ⟨v, g1, g2, g3⟩ => ?_, h4⟩
  rw [h2] at g2
  obtain ⟨fa, fc, rfl⟩ := g2.slice
  rw [hq] at g1
  exact ⟨fa, fc, g1, g3⟩
 obtain ⟨n, hN⟩ : ∃ n, (runesB x).length = n := ⟨_, rfl⟩
 have HE : Hid (∀ (m : Option Nat), m = aheadM (runesB x) k → (∀ j, m = some j → metV (stT a F m s F.length) = textV a (runesB x) (k.map fun k => (k : Int)) s) ∧ (m = none → stT a F m s F.length = textV a (runesB x) (k.map fun k => (k : Int)) s)) := Lib.hid fun m hm => by
  subst hm
  rw [← hF]
  cases k with
  | none => exact ⟨(fun j hj => by cases hj), fun _ => stT_none a (runesB x) s⟩
  | some k => exact ⟨fun j hj => stT_some a (runesB x) k s, fun hh => by cases hh⟩
 have HCap : Hid (∀ m j, capV (stT a F m s j) ≤ 10000000) := Lib.hid fun m j => by
  have := cap_stT a F m s j
  rw [hF] at hfl
  omega
 have HOp : Hid (∀ m j, OpW (stT a F m s j)) := Lib.hid fun m j => opw_stT a F m j ho
 have HV0 := Lib.hid h
 have HM : Hid (∀ k', k = some k' → (n ≤ k' → q = F.length) ∧ aheadM (runesB x) k = some q) := Lib.hid fun k' hk => by
  subst hk
  refine ⟨fun h1 => ?_, ?_⟩
  ·rw [← hq, ← hF]
   simp only [Option.getD_some]
   rw [List.take_of_length_le (by omega)]
  ·unfold aheadM
   rw [← hq]
   rfl
 have hFl : F.length ≤ 2000000 := by rw [← hF]; omega
 have hnl : n ≤ 2000000 := by omega
 rw [hN] at HC
 clear h ho hc hn hfl hN hF hq hx
 cases k with
 | none =>
  have HE2 := Lib.hid ((HE.out none rfl).2 rfl)
  clear HE HM
  simp only [Option.isSome_none, Option.getD_none] at *
  go_enter Tryz.func92, Tryz.ntmps92
  go_wp2_with (first
   | (go_at_call 53; refine HC.out.mono ?_; rintro e w1 ⟨rfl, hb1⟩)
   | (go_at_call 121; refine (HP.out _).mono ?_; rintro e w3 ⟨t, rfl, HFt, hb3⟩; have HFt := Lib.hid HFt)
   | (go_at_call 52; (with_reducible refine (HF.out _).mono ?_); rintro e w2 ⟨fa, fc, rfl, hv2, hb2⟩)
   | (go_at_call 52; refine (HFt.out _).mono ?_; rintro e w4 ⟨ta, tc, rfl, hb4⟩))
  have hx4 : Below w.heap.size w w4 := below_from (below_from (below_from hb1 hb2) hb3) hb4
  have HX4 := Lib.hid hx4
  have HV4 := Lib.hid (HV0.out.below hx4)
  have hB4 : B < w1.heap.size := Nat.lt_of_lt_of_le hBz hb1.size
  have HROW : Hid (RunesR true w4 (fun b => B < b) (.slice fa F.length fc) F) := Lib.hid (((hv2.below (rdOf_stable _) hb3).below (rdOf_stable _) hb4).stable (rdOf_stable _) (Keeps.refl _ _) (fun b hb _ => Nat.lt_of_lt_of_le hB4 hb))
  clear hx4 hB4 hv2 hb1 hb2 hb3 hb4 HF HP HC HFt HV0
  go_loopw [33] (fun i wr => ∃ j : Nat, j ≤ F.length ∧ i = .int .i64 j ∧ Hid (VwR B wr a lv (stT a F none s j)) ∧ Hid (KeepT B w4 wr)) (fun i _ => F.length - (intOf i).toNat)
  case atStart => exact ⟨0, Nat.zero_le _, rfl, Lib.hid (by rw [stT_zero]; exact HV4.out), Lib.hid (KeepT.refl _ _)⟩
  case round =>
   obtain ⟨j, hj, rfl, HVr, HKr⟩ := hrel
   by_cases hlt : j < F.length
   ·obtain ⟨c, hcj, _⟩ := getOf F j hlt
    obtain ⟨fa', fc', e, hfc, hfm, hxr⟩ := runes_shape (HKr.out.row (by decide) (by decide) HROW.out)
    cases e
    obtain ⟨b, o, rfl, hbz, hcell⟩ := hxr j c hcj
    have HST := Lib.hid (stT_step a none s hcj)
    have i0 : (0 : Int) ≤ (j : Int) := Int.natCast_nonneg _
    have i1 : (j : Int) < (F.length : Int) := by omega
    unfold maxLen at hfm
    clear hxr hcj
    rw [if_neg (by simp)] at HST
    have HPut := Lib.hid (put_any B a lv _ c wr HVr.out (HOp.out none j) (HCap.out none j) hl)
    rw [← HST.out] at HPut
    go_wp2_with (go_at_call 94; refine HPut.out.mono ?_; rintro e w5 ⟨⟨u, rfl⟩, hv5, hk5⟩)
    go_roundw
    case rel => exact ⟨j + 1, hlt, by go_num, Lib.hid hv5, Lib.hid (HKr.out.trans hk5)⟩
    case measure => simp [intOf]; omega
   ·obtain rfl : j = F.length := by omega
    go_wp2_with fail
    go_returns
    rw [← HE2.out]
    exact ⟨⟨_, rfl⟩, HVr.out, (KeepT.of HX4.out).trans HKr.out⟩
 | some k =>
  have HE2 := Lib.hid ((HE.out (some q) (HM.out k rfl).2.symm).1 q rfl)
  have HQ := Lib.hid (HM.out k rfl).1
  clear HE HM
  simp only [Option.isSome_some, Option.getD_some] at *
  go_enter Tryz.func92, Tryz.ntmps92
  go_upto_if 28 with (first
   | (go_at_call 53; refine HC.out.mono ?_; rintro e w1 ⟨rfl, hb1⟩)
   | (go_at_call 121; refine (HP.out _).mono ?_; rintro e w3 ⟨t, rfl, HFt, hb3⟩; have HFt := Lib.hid HFt)
   | (go_at_call 52; (with_reducible refine (HF.out _).mono ?_); rintro e w2 ⟨fa, fc, rfl, hv2, hb2⟩)
   | (go_at_call 52; refine (HFt.out _).mono ?_; rintro e w4 ⟨ta, tc, rfl, hb4⟩))
  have hx4 : Below w.heap.size w w4 := below_from (below_from (below_from hb1 hb2) hb3) hb4
  have HX4 := Lib.hid hx4
  have HV4 := Lib.hid (HV0.out.below hx4)
  have hB4 : B < w1.heap.size := Nat.lt_of_lt_of_le hBz hb1.size
  have HROW : Hid (RunesR true w4 (fun b => B < b) (.slice fa F.length fc) F) := Lib.hid (((hv2.below (rdOf_stable _) hb3).below (rdOf_stable _) hb4).stable (rdOf_stable _) (Keeps.refl _ _) (fun b hb _ => Nat.lt_of_lt_of_le hB4 hb))
  clear hx4 hB4 hv2 hb1 hb2 hb3 hb4 HF HP HC HFt HV0
  go_cut [10] from 29 to 30 (fun r wx => r = .int .i64 q ∧ wx = w4)
  case first => as_aux_lemma =>
   by_cases hnk : n ≤ k
   ·have hqF : F.length = q := (HQ.out hnk).symm
    go_wp2_with fail
    go_meet
    case rel => exact ⟨rfl, rfl⟩
   ·go_wp2_with fail
    go_meet
    case rel => exact ⟨rfl, rfl⟩
  case rest =>
  obtain ⟨rfl, rfl⟩ := hcut
  go_wp2_with fail
  go_loopw [33] (fun i wr => ∃ j : Nat, j ≤ F.length ∧ i = .int .i64 j ∧ Hid (VwR B wr a lv (stT a F (some q) s j)) ∧ Hid (KeepT B wc wr)) (fun i _ => F.length - (intOf i).toNat)
  case atStart => exact ⟨0, Nat.zero_le _, rfl, Lib.hid (by rw [stT_zero]; exact HV4.out), Lib.hid (KeepT.refl _ _)⟩
  case round =>
   obtain ⟨j, hj, rfl, HVr, HKr⟩ := hrel
   by_cases hlt : j < F.length
   ·obtain ⟨c, hcj, _⟩ := getOf F j hlt
    obtain ⟨fa', fc', e, hfc, hfm, hxr⟩ := runes_shape (HKr.out.row (by decide) (by decide) HROW.out)
    cases e
    obtain ⟨b, o, rfl, hbz, hcell⟩ := hxr j c hcj
    have HST := Lib.hid (stT_step a (some q) s hcj)
    have i0 : (0 : Int) ≤ (j : Int) := Int.natCast_nonneg _
    have i1 : (j : Int) < (F.length : Int) := by omega
    unfold maxLen at hfm
    clear hxr hcj
    by_cases hjq : j = q
    ·subst hjq
     replace HST : Hid (stT a F (some j) s (j + 1) = putV a c (metV (stT a F (some j) s j))) := Lib.hid (by rw [HST.out, if_pos rfl])
     have HMet := Lib.hid (met_any B a lv _ wr HVr.out (HOp.out (some j) j) (by have := HCap.out (some j) j; unfold capV at this; omega))
     have HPut : Hid (∀ W, VwR B W a lv (metV (stT a F (some j) s j)) → Calls Tryz.prog 94 #[.pointer (some ⟨B, 0, none⟩), .int .i32 c] W fun e w' => (∃ u, e = .returned u) ∧ VwR B w' a lv (stT a F (some j) s (j + 1)) ∧ KeepT B W w') := Lib.hid fun W hW => by
      rw [HST.out]
      exact put_any B a lv _ c W hW (opw_met (HOp.out (some j) j)) (by rw [cap_met]; exact HCap.out (some j) j) hl
     go_wp2_with (first
      | (go_at_call 93; refine HMet.out.mono ?_; rintro e w5 ⟨⟨u, rfl⟩, hv5, hk5⟩)
      | (go_at_call 94; refine (HPut.out _ hv5).mono ?_; rintro e w6 ⟨⟨u, rfl⟩, hv6, hk6⟩))
     go_roundw
     case rel => exact ⟨j + 1, hlt, by go_num, Lib.hid hv6, Lib.hid ((HKr.out.trans hk5).trans hk6)⟩
     case measure => simp [intOf]; omega
    ·have hd : decide ((j : Int) = (q : Int)) = false := decide_eq_false (by omega)
     have hd2 : ((j : Int) == (q : Int)) = false := beq_eq_false_iff_ne.2 (by omega)
     replace HST : Hid (stT a F (some q) s (j + 1) = putV a c (stT a F (some q) s j)) := Lib.hid (by rw [HST.out, if_neg (by simp; omega)])
     have HPut := Lib.hid (put_any B a lv _ c wr HVr.out (HOp.out (some q) j) (HCap.out (some q) j) hl)
     rw [← HST.out] at HPut
     clear hjq
     go_wp2_with (go_at_call 94; refine HPut.out.mono ?_; rintro e w5 ⟨⟨u, rfl⟩, hv5, hk5⟩)
     go_roundw
     case rel => exact ⟨j + 1, hlt, by go_num, Lib.hid hv5, Lib.hid (HKr.out.trans hk5)⟩
     case measure => simp [intOf]; omega
   ·obtain rfl : j = F.length := by omega
    have HMet := Lib.hid (met_any B a lv _ wr HVr.out (HOp.out (some q) F.length) (by have := HCap.out (some q) F.length; unfold capV at this; omega))
    go_wp2_with (go_at_call 93; refine HMet.out.mono ?_; rintro e w5 ⟨⟨u, rfl⟩, hv5, hk5⟩)
    go_returns
    rw [← HE2.out]
    exact ⟨⟨_, rfl⟩, hv5, ((KeepT.of HX4.out).trans HKr.out).trans hk5⟩
end Go.Proofs.YtjpgffihafknlaaGreatDoor
namespace Go.Proofs.Qw
open Go.RowKit
def oneV (x : Nod) (k : Nat) (a : Aro) (p : Plc) (s : VSt) : VSt := match p with
 | none => nodeV x a none s
 | some ([], at_) => nodeV x a none (if at_ = (k : Int) then metV s else s)
 | some (j :: path, at_) => if j = (k : Int) then nodeV x a (some (path, at_)) s else nodeV x a none s
def endV (p : Plc) (s : VSt) : VSt := match p with | some ([], _) => metV s | _ => s
theorem kids_one {ks : List Nod} {k : Nat} {x : Nod} (h : ks.drop k = x :: ks.drop (k + 1)) (a : Aro) (p : Plc) (s : VSt) : kidsV (ks.drop k) k a p s = kidsV (ks.drop (k + 1)) (k + 1) a p (oneV x k a p s) := by
 rw [h, kidsV_cons]
 rfl
theorem kids_end (ks : List Nod) (a : Aro) (p : Plc) (s : VSt) : kidsV (ks.drop ks.length) ks.length a p s = endV p s := by
 rw [List.drop_length, kidsV_nil]
 rfl
theorem cap_onev (x : Nod) (k : Nat) (a : Aro) (p : Plc) (s : VSt) : capV (oneV x k a p s) ≤ capV s + capM x := by
 unfold oneV
 have h3 : ∀ c : Prop, [Decidable c] → capV (if c then metV s else s) = capV s := fun c _ => by split; exact cap_met s; rfl
 split
 ·exact cap_all x a none s
 ·refine Nat.le_trans (cap_all x a none _) ?_
  rw [h3]
  exact Nat.le_refl _
 ·split
  ·exact cap_all x a _ s
  ·exact cap_all x a none s
theorem opw_one (x : Nod) (k : Nat) (a : Aro) (p : Plc) {s : VSt} (h : OpW s) : OpW (oneV x k a p s) := by
 unfold oneV
 split
 ·exact opw_node x _ _ _ h
 ·exact opw_node x _ _ _ (by split; exact opw_met h; exact h)
 ·split
  ·exact opw_node x _ _ _ h
  ·exact opw_node x _ _ _ h
end Go.Proofs.Qw
namespace Go.Proofs.YtjpgffihafknlaaGreatDoor
open Go.RowKit
open Go.Proofs.Qw
def PlcR (B : Nat) (w0 w : World) (S : Nat → Prop) (pv : Value) (p : Plc) : Prop :=
 (p = none ∧ pv = .pointer none) ∨ ∃ path k b v, p = some (path, k) ∧ pv = .pointer (some ⟨b, 0, none⟩) ∧ b ≠ B ∧ w.heap[b]? = some (.cells #[v, .int .i64 k] 44) ∧ IntsR false w0 S v path
theorem PlcR.none (B : Nat) (w0 w : World) (S : Nat → Prop) : PlcR B w0 w S (.pointer none) none := .inl ⟨rfl, rfl⟩
theorem PlcR.keep {B : Nat} {w0 w w' : World} {S : Nat → Prop} {pv : Value} {p : Plc} (h : PlcR B w0 w S pv p) (hk : KeepT B w w') : PlcR B w0 w' S pv p := by
 rcases h with h | ⟨path, k, b, v, h1, h2, h3, h4, h5⟩
 ·exact .inl h
 ·exact .inr ⟨path, k, b, v, h1, h2, h3, hk.heap h4 h3 (by decide) (by decide), h5⟩
end Go.Proofs.YtjpgffihafknlaaGreatDoor
