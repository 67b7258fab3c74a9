/- Parts of the proof. -/
import Derived.Test.YtjgeadoncanheaaGreatDoorAttrWalkN
import Derived.Test.YtjgeadoncanheaaGreatDoorLaidN
import Derived.Deep.RegionHeld3
import Derived.Deep.DrawnRows
import Derived.Lib.AppendZeros
set_option linter.unusedVariables false
set_option linter.unusedSimpArgs false
set_option maxHeartbeats 8000000
namespace Go.Proofs.YtjgeadoncanheaaGreatDoor
open Go.RowKit
open Go.Proofs.Qw
open _root_.Go.Lib renaming hid → zA
open _root_.Int renaming natCast_nonneg → zR
theorem zJP : (Tryz.prog.info? 43).bind (·.zero) = some (.agg #[.int .i32 0, .int .i64 0, .string ⟨#[]⟩]) := by kernel_rfl
set_option maxRecDepth 100000 in
theorem zHh (m : Nat) (w : World) (hm : m ≤ 10000000) :
  Calls Tryz.prog 220 #[.slice none 0 0, .int .i64 m] w fun e w' => ∃ v', e = .returned v' ∧ jC true w' (fun b => w.heap.size ≤ b) v' [] ∧ Below w.heap.size w w' := by
 go_enter Tryz.func220, Tryz.ntmps220;rcases Nat.eq_zero_or_pos m with hz | hz
 ·subst hz
  go_wp2_with fail;go_ret;exact ⟨_, rfl, SliceR.nil _ _ _ _ _ _, Below.refl _ _⟩
 ·obtain ⟨cap, W2, hr, h2, hB2⟩ := zDF (ty := 44) (kq := .i64) (w := w) (n := w.heap.size) uE Tryz.underlying3 zJP uF (SliceR.nil _ _ _ _ _ _) (Nat.le_refl _) (fun _ => rfl) (x0 := ⟨0, 0, []⟩) hz qC jB
  have HR := zA hr;have h3 := SliceR.take h2 (i := 0) (Nat.zero_le _);have H3 := zA h3;have HB := zA hB2;clear hr h2 hB2 h3;go_wp2_with (at_builtin; refine Lib.wpList_append_run _ rfl _ _ _ _ rfl _ _ rfl rfl _ _ HR.out ?_);go_ret;exact ⟨_, rfl, H3.out, HB.out⟩
def lens (xss : List (List Cel)) : Nat := (xss.map List.length).sum
theorem zFb {xss : List (List Cel)} {k : Nat} {xs : List Cel} (h : xss[k]? = some xs) : lens (xss.take (k + 1)) = lens (xss.take k) + xs.length := by
 unfold lens;rw [xQ h]
 simp
theorem zFG (xss : List (List Cel)) (k : Nat) : lens (xss.take k) ≤ lens xss := by
 conv => rhs; rw [← List.take_append_drop k xss]
 unfold lens;rw [List.map_append, List.sum_append]
 omega
theorem zJq (xss : List (List Cel)) : xss.flatten.length = lens xss := by unfold lens; rw [List.length_flatten]
theorem zJx {xss : List (List Cel)} {k : Nat} {xs : List Cel} (h : xss[k]? = some xs) : (xss.take (k + 1)).flatten = (xss.take k).flatten ++ xs := by
 rw [xQ h, List.flatten_append]
 simp
set_option maxRecDepth 100000 in
theorem zDE (g m : Nat) (cs : Array Value) (xss : List (List Cel)) (w : World) (S : Nat → Prop) (hg : w.heap[g]? = some (.cells cs 44)) (hx : ∀ (k : Nat) xs, xss[k]? = some xs → ∃ v, cs[k]? = some v ∧ jC false w S v xs)
  (hl : lens xss ≤ 4000000) (hm : xss.length ≤ 1000000) (hmm : m = xss.length) :
  Calls Tryz.prog 179 #[.slice (some ⟨g, 0, none⟩) m m] w fun e w' => ∃ v', e = .returned v' ∧ jC true w' (fun b => w.heap.size ≤ b) v' xss.flatten ∧ Below w.heap.size w w' := by
 subst hmm;have hgz := (Array.getElem?_eq_some_iff.1 hg).1;have HG := zA hg;have HX := zA hx;have HC : Hid (∀ W, Below w.heap.size w W → Calls Tryz.prog 220 #[.slice none 0 0, .int .i64 (lens xss : Nat)] W fun e w' => ∃ v', e = .returned v' ∧ jC true w' (fun b => W.heap.size ≤ b) v' [] ∧ Below W.heap.size W w') := zA fun W _ => zHh (lens xss) W qC;clear hg hx;go_enter Tryz.func179, Tryz.ntmps179;go_wp2_with fail;go_loopw [3, 5, 11] (fun n _ i wr => ∃ k : Nat, k ≤ xss.length ∧ i = .int .i64 k ∧ n = .int .i64 (lens (xss.take k)) ∧ wr = w) (fun _ _ i _ => xss.length - (intOf i).toNat)
 case atStart => exact ⟨0, Nat.zero_le _, rfl, rfl, rfl⟩
 case round =>
  obtain ⟨k, hk, rfl, rfl, rfl⟩ := hrel;obtain ⟨wo, rfl⟩ : ∃ wo : World, wo = wr := ⟨_, rfl⟩
  by_cases hlt : k < xss.length
  ·obtain ⟨xs, hxs, _⟩ := jO xss k hlt
   obtain ⟨v, hv, hR⟩ := HX.out k xs hxs;obtain ⟨sa, sc, rfl⟩ := hR.slice;have c0 : wo.cell? ⟨g, k, none⟩ = some (.slice sa xs.length sc) := by rw [jR HG.out]; exact hv
   have e1 := zFb hxs;have e2 := zFG xss (k + 1);have HE := zA e1;have hle : lens (xss.take k) + xs.length ≤ 4000000 := by omega
   have i0 : (0 : Int) ≤ (k : Int) := zR _;have i1 : (k : Int) < (xss.length : Int) := by omega
   clear hxs hv hR e1 e2;go_wp2_with fail;go_roundw
   case rel => exact ⟨k + 1, hlt, by go_num, by rw [HE.out]; go_num, by first | rfl | trivial⟩
   case measure => simp [intOf]; omega
  ·obtain rfl : k = xss.length := by omega
   have HT : Hid (xss.take xss.length = xss) := zA (List.take_length ..);rw [HT.out];go_wp2_with (go_at_call 220; refine (HC.out _ (Below.refl _ _)).mono ?_; rintro e w2 ⟨v2, rfl, hv2, hb2⟩);have HV2 := zA hv2;clear hv2;go_loopw [6, 8, 27] (fun out _ i wi => ∃ k : Nat, k ≤ xss.length ∧ i = .int .i64 k ∧ jC true wi (fun b => wo.heap.size ≤ b) out (xss.take k).flatten ∧ Below wo.heap.size wo wi) (fun _ _ i _ => xss.length - (intOf i).toNat)
   case atStart => exact ⟨0, Nat.zero_le _, rfl, HV2.out, hb2⟩
   case round =>
    clear hb2 HV2;obtain ⟨q, hq, rfl, hO, hb⟩ := hrel;have HO := zA hO;clear hO
    by_cases hlt2 : q < xss.length
    ·obtain ⟨xs, hxs, _⟩ := jO xss q hlt2
     obtain ⟨v, hv, hR⟩ := HX.out q xs hxs;have HS := zA (SliceR.src_flat uE uF (SliceR.below (jV _) hR hb));obtain ⟨sa, sc, rfl⟩ := hR.slice;have c0 : wr.cell? ⟨g, q, none⟩ = some (.slice sa xs.length sc) := by rw [hb.cell (p := ⟨g, q, none⟩) hgz, jR HG.out]; exact hv
     have HT := zA (zJx hxs)
     have hfl : (xss.take q).flatten.length + xs.length ≤ 100000000 := by
      have h1 := zFb hxs;have h2 := zFG xss (q + 1);rw [zJq]
      omega
     have HF := zA hfl;have i0 : (0 : Int) ≤ (q : Int) := zR _;have i1 : (q : Int) < (xss.length : Int) := by omega
     have hbs := hb.size;clear hxs hv hR hfl;go_wp2_with (at_builtin; refine uO _ rfl _ _ 44 44 rfl uE uF wo.heap.size _ _ (xs := (xss.take q).flatten) (ys := xs) (news := xs.flatMap xA) rfl rfl HO.out hbs HS.out (zKl _ _ _) HF.out ?_; intro v' w1 hR hB _ _; rw [← HT.out] at hR; have HR := zA hR; have HB := zA hB; clear hR hB);go_roundw
     case rel => exact ⟨q + 1, hlt2, by go_num, HR.out, hb.trans HB.out⟩
     case measure => simp [intOf]; omega
    ·obtain rfl : q = xss.length := by omega
     have HB := zA hb;clear hb;go_wp2_with fail;go_ret;exact ⟨_, rfl, Eq.mp (congrArg (fun x => jC true wr (fun b => wo.heap.size ≤ b) _ x.flatten) HT.out) HO.out, HB.out⟩
end Go.Proofs.YtjgeadoncanheaaGreatDoor
namespace Go.Proofs.Qw
open Go.RowKit
theorem zCr {P : Program} (w : World) {ops : Array Oper} {rest : List Oper} {o : Oper} {a : Act} {Q : Exit → Act → World → Prop} (hgd : o.guard = none) (s x : Operand) (t tn : TypeId)
  (ho : o.op = .call { callee := .builtin .copy, args := #[s, x], argTypes := #[t, tn] }) (vs vx : Value) (hs : a.eval s = vs) (hx : a.eval x = vx)
  (v' : Value) (w' : World) (hr : (Builtin.copy_ #[t, tn] o.type #[vs, vx]).run P w = .ok v' w') (h : wpList P ops Q rest (a.put o.dst v') w') : wpList P ops Q (o :: rest) a w := by
 refine wpList_plain hgd fun K hK => ?_;unfold Oper.wp execOp;simp only [ho, resolve, invoke, builtin, Sem.run_bind, Sem.run_pure, Result.andThen_ok, List.map_toArray, List.map_cons, List.map_nil, hs, hx, hr];exact hK _ _ h
theorem zCq {P : Program} (w : World) {ops : Array Oper} {rest : List Oper} {o : Oper} {a : Act} {Q : Exit → Act → World → Prop} (hgd : o.guard = none) (s : Operand) (t : TypeId)
  (ho : o.op = .call { callee := .builtin .clear, args := #[s], argTypes := #[t] }) (vs : Value) (hs : a.eval s = vs)
  (v' : Value) (w' : World) (hr : (Builtin.clear_ #[t] o.type #[vs]).run P w = .ok v' w') (h : wpList P ops Q rest (a.put o.dst v') w') : wpList P ops Q (o :: rest) a w := by
 refine wpList_plain hgd fun K hK => ?_;unfold Oper.wp execOp;simp only [ho, resolve, invoke, builtin, Sem.run_bind, Sem.run_pure, Result.andThen_ok, List.map_toArray, List.map_cons, List.map_nil, hs, hr];exact hK _ _ h
theorem zCx {P : Program} {w : World} {ops : Array Oper} {o : Oper} {a : Act} {K : Act → World → Prop} {Q : Exit → Act → World → Prop} {E : Prop} (hgd : o.guard = none) (s x : Operand) (t tn : TypeId)
  (ho : o.op = .call { callee := .builtin .copy, args := #[s, x], argTypes := #[t, tn] }) (vs vx : Value) (hs : a.eval s = vs) (hx : a.eval x = vx)
  (v' : Value) (w' : World) (hr : (Builtin.copy_ #[t, tn] o.type #[vs, vx]).run P w = .ok v' w') (h : K (a.put o.dst v') w') : if Region.wanted o (yielded ops a.tmps) = true then Oper.wp P o a w K Q else E := by
 have hw : Region.wanted o (yielded ops a.tmps) = true := by simp [Region.wanted, hgd]
 rw [if_pos hw];unfold Oper.wp execOp;simp only [ho, resolve, invoke, builtin, Sem.run_bind, Sem.run_pure, Result.andThen_ok, List.map_toArray, List.map_cons, List.map_nil, hs, hx, hr];exact h
theorem zLt {α : Type} {xs : List α} {i : Nat} {e : α} (h : i < xs.length) : xs.take i ++ [e] ++ xs.drop (i + 1) = xs.set i e := by
 rw [List.set_eq_take_append_cons_drop, if_pos h, List.append_assoc]; rfl
theorem zII {α : Type} {xs : List α} {i j : Nat} {e : α} (h : i < xs.length) (hij : i < j) : ((xs.take i ++ [e] ++ xs.drop (i + 1)).drop j).take (xs.length - j) = xs.drop j := by
 rw [zLt h];apply List.ext_getElem?
 intro q;rw [List.getElem?_take, List.getElem?_drop, List.getElem?_drop, List.getElem?_set_ne qC]
 split
 ·rfl
 ·rw [List.getElem?_eq_none qC]
theorem zIi {α : Type} {xs ys zs : List α} {i : Nat} {e : α} (h : i < xs.length) {m : Nat} (hm : m = i + 1 + ys.length) : ((xs.take i ++ [e] ++ xs.drop (i + 1)).take (i + 1) ++ ys ++ zs).take m = xs.take i ++ [e] ++ ys := by
 have e1 : (xs.take i ++ [e] ++ xs.drop (i + 1)).take (i + 1) = xs.take i ++ [e] := by
  rw [List.take_left' jB]
 rw [e1, List.take_left' jB]
end Go.Proofs.Qw
namespace Go.Proofs.YtjgeadoncanheaaGreatDoor
open Go.RowKit
open Go.Proofs.Qw
attribute [local go_sem ↓] Go.wp_at_zero Go.wp_at_succ
open _root_.Go.Lib renaming hid → zA
open _root_.And renaming intro → zB
open _root_.Nat renaming le_refl → zC, le_trans → zD
open _root_.Go.RowKit.Below renaming refl → zE
open _root_.Array renaming getElem?_eq_some_iff → zL
open _root_.List renaming length_append → zS
open _root_.Go.Proofs.Tryz renaming prog → zV
open _root_.Go.Proofs.Qw renaming jW → zZ
open _root_.Go.Proofs.Qw.SliceR renaming below → qH
set_option maxRecDepth 100000 in
theorem zHG (b o ln c vb vo vc : Nat) (xs : List Lin) (e : Lin) (i j n : Nat) (w : World) (h : DocR true w (fun b => n ≤ b) (.slice (some ⟨b, o, none⟩) ln c) xs) (hv : DocR true w (fun b => n ≤ b) (.slice (some ⟨vb, vo, none⟩) 1 vc) [e]) (_hne : vb ≠ b)
  (hij : i < j) (hj : j < xs.length) (hlen : xs.length ≤ 1000000) :
  Calls zV 173 #[.slice (some ⟨b, o, none⟩) ln c, .int .i64 i, .int .i64 j, .slice (some ⟨vb, vo, none⟩) 1 vc] w fun e' w' => ∃ v', e' = .returned v' ∧ DocR true w' (fun b => n ≤ b) v' (xs.take i ++ [e] ++ xs.drop j) ∧ Below n w w' := by
 obtain ⟨rfl, hc, hm⟩ := SliceR.len h;have hcc : c ≤ 9223372036854775807 := hm;have H := zA (zB h hv);have q1 : ¬ c = i := by omega
 have q2 : ¬ c = i + 1 := by omega
 have q3 : ¬ c = j := by omega
 have t1 : ((i : Int) == (j : Int)) = false := beq_eq_false_iff_ne.2 qC;have t2 : ((j : Int) == (xs.length : Int)) = false := beq_eq_false_iff_ne.2 qC;clear h hv;go_enter Tryz.func173, Tryz.ntmps173;go_wp2_with fail;go_quiet (fail);have hk1 : Below w.heap.size w (w.drewN nq) := jN (zE _ _);obtain ⟨W1, hW1⟩ : ∃ W1, w.drewN nq = W1 := ⟨_, rfl⟩;rw [hW1] at hk1 ⊢;have h1 := qH (zZ true) H.out.1 hk1;have hv1 := qH (zZ true) H.out.2 hk1;obtain ⟨news, hs1, hn1⟩ := SliceR.src kL kB.pos kB.ones hv1;obtain ⟨W2, hr1, h2, hB2, hz2, ho2⟩ := zAL (ty := 3) kL kB.tag qV h1 (p := i) (q := i + 1 + (xs.length - j)) (ys := [e]) qC (by show i + 1 ≤ _; omega) (by show i + 1 ≤ _; omega) qC hs1 hn1
 have hbn : n ≤ b := by
  obtain ⟨b', o', cs, e, hb, _⟩ := SliceR.cellAt H.out.1 (i := 0) qC;cases e;exact hb
 have h2d : DocR true W2.drew (fun b => n ≤ b) (.slice (some ⟨b, o, none⟩) xs.length c) (xs.take i ++ [e] ++ xs.drop (i + 1)) := qH (zZ true) h2 (zE _ _).drew;have hl2 : (xs.take i ++ [e] ++ xs.drop (i + 1)).length = xs.length := by simp; omega
 have hp3 := h2d.part (i := j) (j := xs.length) (m := c) qC qC hc (zC _);have e3 := zII (e := e) (show i < xs.length by omega) hij;rw [e3] at hp3;simp only [sliced, if_neg q3, Option.map_some, Addr.add_lit] at hp3;obtain ⟨news2, hs2, hn2⟩ := SliceR.src kL kB.pos kB.ones hp3;obtain ⟨W3, hr2, h3, hB3, hz3, ho3⟩ := zAL (ty := 3) kL kB.tag qV h2d (p := i + 1) (q := i + 1 + (xs.length - j)) (ys := xs.drop j) qC jB qE qC hs2 hn2;rw [show i + 1 + (xs.length - j) - (i + 1) = xs.length - j by omega] at hr2;have HR1 := zA hr1;have HR2 := zA hr2;clear hr1 hr2;go_wp2_with (refine zCr _ rfl _ _ _ _ rfl _ _ rfl rfl _ _ HR1.out ?_);have w1 : IntKind.i64.wrap ((i : Int) + 1) = (i : Int) + 1 := IntWalk.i64_in _ qC;have w2 : (0 : Int) ≤ (i : Int) + 1 := by omega
 have w3 : ((i : Int) + 1).toNat = i + 1 := by omega
 have w4 : (i : Int) + 1 ≤ (i : Int) + 1 + ((xs.length - j : Nat) : Int) := by omega
 have w5 : (0 : Int) ≤ (j : Int) := by omega
 have w6 : (j : Int) ≤ (xs.length : Int) := by omega
 go_region_held3 (fun _ => True) (trivial) ((refine zCx xX _ _ _ _ xX _ _ xX xX _ _ HR2.out ?_));clear w1
 have HW3 : Hid (Below n w W3) := zA ((((hk1.mono (by have := H.out.1; exact zD hbn (by
  obtain ⟨b', o', cs, e, hb, hg, _⟩ := SliceR.cellAt H.out.1 (i := 0) qC;cases e;exact Nat.le_of_lt (zL.1 hg).1))).trans (hB2 n hbn)).drew).trans (hB3 n hbn))
 have hl3 : i + 1 + (xs.drop j).length = i + 1 + (xs.length - j) := by simp
 rw [hl3] at h3;have HT3 := zA (zIi (xs := xs) (ys := xs.drop j) (zs := (xs.take i ++ [e] ++ xs.drop (i + 1)).drop (i + 1 + (xs.length - j))) (e := e) (show i < xs.length by omega) (m := i + 1 + (xs.length - j)) qE);have HH3 := zA h3;clear h1 hv1 h2 h2d hp3 h3 hB2 hB3 hz2 hz3 ho2 ho3 hs1 hn1 hs2 hn2 hl2 e3 hl3
 by_cases hT : i + 1 < j
 ·obtain ⟨W4, hr4, h4, hB4, _, _⟩ := zFP (ty := 0) kL (z := .agg #[.int .i64 0, .slice none 0 0, .int .i64 0, .slice none 0 0]) zT (by intro u hu; simp [Value.cells] at hu; rcases hu with rfl | rfl | rfl | rfl <;> rfl) kB.tag qV (x0 := ⟨0, [], 0, []⟩) ⟨_, _, rfl, SliceR.nil _ _ _ _ _ _, SliceR.nil _ _ _ _ _ _⟩ HH3.out (p := i + 1 + (xs.length - j)) qC
  have q4 : ¬ c = i + 1 + (xs.length - j) := by omega
  have w7 : (i : Int) + 1 + ((xs.length - j : Nat) : Int) ≤ (xs.length : Int) := by omega
  have HR4 := zA hr4;have H4 := zA (zB h4 (hB4 n hbn));clear hr4 h4 hB4;go_wp2_with (refine zCq _ rfl _ _ rfl _ rfl _ _ HR4.out ?_);go_ret;refine ⟨_, rfl, ?_, HW3.out.trans H4.out.2⟩;have h9 := SliceR.take H4.out.1 (i := i + 1 + (xs.length - j)) (by have := (SliceR.len HH3.out).1; rw [zS, List.length_replicate, List.length_take]; omega);rw [List.take_left' (by have := (SliceR.len HH3.out).1; rw [List.length_take]; omega), HT3.out] at h9;exact h9
 ·have hT2 : i + 1 + (xs.length - j) = xs.length := by omega
  have w7 : (i : Int) + 1 + ((xs.length - j : Nat) : Int) ≤ (xs.length : Int) := by omega
  have hn0 : xs.length - (i + 1 + (xs.length - j)) = 0 := by omega
  have h9 := SliceR.take HH3.out (i := i + 1 + (xs.length - j)) (by have := (SliceR.len HH3.out).1; omega);rw [HT3.out] at h9;have H9 := zA h9;have HR4 : Hid (∀ a, (Builtin.clear_ #[22] 0 #[.slice (some a) (xs.length - (i + 1 + (xs.length - j))) (c - (i + 1 + (xs.length - j)))]).run zV W3 = .ok (.tuple #[]) W3) := zA fun a => by rw [hn0]; exact zGi Tryz.underlying22 a _ W3
  clear h9 hn0 hT2;rcases Decidable.em (c = i + 1 + (xs.length - j)) with rfl | q4
  all_goals
   go_wp2_with (refine zCq _ rfl _ _ rfl _ rfl _ _ (HR4.out _) ?_);go_ret;exact ⟨_, rfl, H9.out, HW3.out⟩
set_option maxRecDepth 100000 in
theorem zHH (b o ln c vb vo vc : Nat) (xs : List Lin) (e : Lin) (i n : Nat) (w : World) (h : DocR true w (fun b => n ≤ b) (.slice (some ⟨b, o, none⟩) ln c) xs) (hv : DocR true w (fun b => n ≤ b) (.slice (some ⟨vb, vo, none⟩) 1 vc) [e]) (_hne : vb ≠ b)
  (hij : i < xs.length) (hlen : xs.length ≤ 1000000) :
  Calls zV 173 #[.slice (some ⟨b, o, none⟩) ln c, .int .i64 i, .int .i64 xs.length, .slice (some ⟨vb, vo, none⟩) 1 vc] w fun e' w' => ∃ v', e' = .returned v' ∧ DocR true w' (fun b => n ≤ b) v' (xs.take i ++ [e]) ∧ Below n w w' := by
 obtain ⟨rfl, hc, hm⟩ := SliceR.len h;have hcc : c ≤ 9223372036854775807 := hm
 have hbn : n ≤ b := by
  obtain ⟨b', o', cs, e, hb, _⟩ := SliceR.cellAt h (i := 0) qC;cases e;exact hb
 obtain ⟨news, hs1, hn1⟩ := SliceR.src kL kB.pos kB.ones hv;obtain ⟨W2, hr1, h2, hB2, hz2, ho2⟩ := zIe (ty := 22) kL kB.tag qV h (p := i) (ys := [e]) (by show i + 1 ≤ _; omega) qC hs1 hn1;have HR1 := zA hr1;have H2 := zA (zB h2 (hB2 n hbn));have t1 : ((i : Int) == (xs.length : Int)) = false := beq_eq_false_iff_ne.2 qC;have q1 : ¬ c = i := by omega
 have e1 : (xs.take i ++ [e] ++ xs.drop (i + [e].length)).take (i + 1) = xs.take i ++ [e] := List.take_left' jB;have HE := zA e1;clear h hv hs1 hn1 hr1 h2 hB2 hz2 ho2 e1;go_enter Tryz.func173, Tryz.ntmps173
 by_cases hT : i + 1 < xs.length
 ·obtain ⟨W4, hr4, h4, hB4, _, _⟩ := zFP (ty := 0) kL (z := .agg #[.int .i64 0, .slice none 0 0, .int .i64 0, .slice none 0 0]) zT (by intro u hu; simp [Value.cells] at hu; rcases hu with rfl | rfl | rfl | rfl <;> rfl) kB.tag qV (x0 := ⟨0, [], 0, []⟩) ⟨_, _, rfl, SliceR.nil _ _ _ _ _ _, SliceR.nil _ _ _ _ _ _⟩ H2.out.1 (p := i + 1) qC
  have q4 : ¬ c = i + 1 := by omega
  have HR4 := zA hr4;have H4 := zA (zB h4 (hB4 n hbn));clear hr4 h4 hB4;go_wp2_with (first | (at_builtin; refine Lib.wpList_append_run _ rfl _ _ _ _ rfl _ _ rfl rfl _ _ HR1.out ?_) | (refine zCq _ rfl _ _ rfl _ rfl _ _ HR4.out ?_));go_ret;refine ⟨_, rfl, ?_, H2.out.2.trans H4.out.2⟩;have h9 := SliceR.take H4.out.1 (i := i + 1) (by rw [zS, List.length_replicate, List.length_take]; have := (SliceR.len H2.out.1).1; omega);rw [List.take_left' (by rw [List.length_take]; have := (SliceR.len H2.out.1).1; omega), HE.out] at h9;exact h9
 ·have t3 : ¬ ((i : Int) + 1 < (xs.length : Int)) := by omega
  go_wp2_with (at_builtin; refine Lib.wpList_append_run _ rfl _ _ _ _ rfl _ _ rfl rfl _ _ HR1.out ?_);go_ret;refine ⟨_, rfl, ?_, H2.out.2⟩;have h9 := SliceR.take H2.out.1 (i := i + 1) (by have := (SliceR.len H2.out.1).1; omega);rw [HE.out] at h9;exact h9
set_option maxRecDepth 100000 in
theorem zGc (b o ln c vb vo vc : Nat) (xs : List Lin) (e1 e2 : Lin) (i n : Nat) (w : World) (h : DocR true w (fun b => n ≤ b) (.slice (some ⟨b, o, none⟩) ln c) xs) (hv : DocR true w (fun b => n ≤ b) (.slice (some ⟨vb, vo, none⟩) 2 vc) [e1, e2])
  (hn : n ≤ w.heap.size) (hij : i + 1 = xs.length) (hlen : xs.length ≤ 1000000) :
  Calls zV 173 #[.slice (some ⟨b, o, none⟩) ln c, .int .i64 i, .int .i64 xs.length, .slice (some ⟨vb, vo, none⟩) 2 vc] w fun e' w' => ∃ v', e' = .returned v' ∧ DocR true w' (fun b => n ≤ b) v' (xs.take i ++ [e1, e2]) ∧ Below n w w' ∧ ∀ k : Nat, k < w.heap.size → k ≠ b → w'.heap[k]? = w.heap[k]? := by
 obtain ⟨rfl, hc, hm⟩ := SliceR.len h;have hcc : c ≤ 9223372036854775807 := hm;obtain ⟨news, hs1, hn1⟩ := SliceR.src kL kB.pos kB.ones hv;have ht := SliceR.take h (i := i) qC;obtain ⟨v', W2, hr1, h2, hB2, hgr, _⟩ := zDf (ty := 22) kL kB ht hn hs1 hn1 (by rw [List.length_take]; show _ + 2 ≤ _; omega)
 obtain ⟨a2, n2, c2, rfl, hn2⟩ : ∃ a2 n2 c2, v' = .slice a2 n2 c2 ∧ n2 = i + 2 := by
  obtain ⟨a2, c2, e⟩ := h2.slice;exact ⟨a2, _, c2, e, by rw [zS, List.length_take]; show _ + 2 = _; omega⟩
 have HR1 := zA hr1;have hfr : ∀ k : Nat, k < w.heap.size → k ≠ b → W2.heap[k]? = w.heap[k]? := fun k hk hne => hgr.block k hk (fun e => hne (by cases e; rfl));have H2 := zA (zB h2 (zB hB2 hfr));have t1 : ((i : Int) == (xs.length : Int)) = false := beq_eq_false_iff_ne.2 qC;have t3 : ¬ ((n2 : Int) < (xs.length : Int)) := by omega
 have q1 : ¬ c = i := by omega
 clear h hv hs1 hn1 hr1 h2 hB2 ht hn2 hgr hfr;go_enter Tryz.func173, Tryz.ntmps173;go_wp2_with (at_builtin; refine Lib.wpList_append_run _ rfl _ _ _ _ rfl _ _ rfl rfl _ _ HR1.out ?_);go_ret;exact ⟨_, rfl, H2.out.1, H2.out.2.1, H2.out.2.2⟩
theorem zJO : (Tryz.prog.info? 47).bind (·.zero) = some (.agg #[.int .i64 0, .slice none 0 0, .int .i64 0, .slice none 0 0]) := by kernel_rfl
theorem zIV (w : World) (S : Nat → Prop) : uK true w S (Value.agg #[.int .i64 0, .slice none 0 0, .int .i64 0, .slice none 0 0]).cells.toList ⟨0, [], 0, []⟩ := ⟨_, _, rfl, SliceR.nil _ _ _ _ _ _, SliceR.nil _ _ _ _ _ _⟩
set_option maxRecDepth 100000 in
theorem zGa (b o ln c vb vo vc : Nat) (xs : List Lin) (e1 e2 : Lin) (i n : Nat) (w : World) (h : DocR true w (fun b => n ≤ b) (.slice (some ⟨b, o, none⟩) ln c) xs) (hv : DocR true w (fun b => n ≤ b) (.slice (some ⟨vb, vo, none⟩) 2 vc) [e1, e2])
  (hn : n ≤ w.heap.size) (hij : i + 1 < xs.length) (hlen : xs.length ≤ 1000000) (hcap : c < xs.length + 1) :
  Calls zV 173 #[.slice (some ⟨b, o, none⟩) ln c, .int .i64 i, .int .i64 ((i + 1 : Nat) : Int), .slice (some ⟨vb, vo, none⟩) 2 vc] w fun e' w' => ∃ v', e' = .returned v' ∧ DocR true w' (fun b => n ≤ b) v' (xs.take i ++ [e1, e2] ++ xs.drop (i + 1)) ∧ Below n w w' ∧ ∀ k : Nat, k < w.heap.size → k ≠ b → w'.heap[k]? = w.heap[k]? := by
 obtain ⟨rfl, hc, hm⟩ := SliceR.len h;have hcc : c ≤ 9223372036854775807 := hm;have hcl : c = xs.length := by omega
 subst hcl;have H := zA (zB h hv);have t1 : ((i : Int) == (i : Int) + 1) = false := beq_eq_false_iff_ne.2 qC;have t2 : ((i : Int) + 1 == (xs.length : Int)) = false := beq_eq_false_iff_ne.2 qC;have q1 : ¬ xs.length = i := by omega
 have q3 : ¬ xs.length = i + 1 := by omega
 have t5 : (xs.length : Int) < (i : Int) + 2 + ((xs.length - (i + 1) : Nat) : Int) := by omega
 clear h hv;go_enter Tryz.func173, Tryz.ntmps173;go_wp2_with fail;go_quiet (fail);have hk1 : Below w.heap.size w (w.drewN nq) := jN (zE _ _);obtain ⟨W1, hW1⟩ : ∃ W1, w.drewN nq = W1 := ⟨_, rfl⟩;rw [hW1] at hk1 ⊢;have h1 := qH (zZ true) H.out.1 hk1;have ht := SliceR.take h1 (i := i) qC;obtain ⟨cap, W2, hr1, h2, hB2⟩ := zDF (ty := 22) (kq := .i64) kL Tryz.underlying3 zJO kB ht (zD hn hk1.size) (fun w => zIV w _) (m := xs.length + 1 - i) qC qC uN;have hln2 : i + (xs.length + 1 - i) = xs.length + 1 := by omega
 rw [hln2] at hr1 h2
 have hcap2 : xs.length + 1 ≤ cap := by
  have := h2.len
  omega
 have hbW : W1.heap.size ≠ b := by
  obtain ⟨b', o', cs, e, hb, hg, _⟩ := SliceR.cellAt h1 (i := 0) qC;cases e;exact Nat.ne_of_gt (zL.1 hg).1
 have hbV : W1.heap.size ≠ vb := by
  obtain ⟨b', o', cs, e, hb, hg, _⟩ := SliceR.cellAt (qH (zZ true) H.out.2 hk1) (i := 0) qE;cases e;exact Nat.ne_of_gt (zL.1 hg).1
 have hv2 := qH (zZ true) (qH (zZ true) H.out.2 hk1) hB2;have hs2 := qH (zZ true) (SliceR.bounded (zZ true) h1) hB2;have hn2 : n ≤ W1.heap.size := zD hn hk1.size;obtain ⟨newsV, hsv, hnv⟩ := SliceR.src kL kB.pos kB.ones hv2;have hl2 : (xs.take i ++ List.replicate (xs.length + 1 - i) (⟨0, [], 0, []⟩ : Lin)).length = xs.length + 1 := by rw [zS, List.length_take, List.length_replicate]; omega
 obtain ⟨W3, hr3, h3, hB3, hz3, ho3⟩ := zAL (ty := 3) kL kB.tag qV h2 (p := i) (q := xs.length + 1) (ys := [e1, e2]) qC (by rw [hl2]; show i + 2 ≤ _; omega) (by show i + 2 ≤ _; omega) qC hsv hnv;have hs3 := SliceR.stable (zZ true) hs2 (Keeps.only hz3 ho3 qE) (fun d h _ => h.1);have hs3d := qH (zZ true) hs3 (zE _ _).drew;have h3d := qH (zZ true) h3 (zE _ _).drew;have hp3 := SliceR.part hs3d (i := i + 1) (j := xs.length) (m := xs.length) qC (zC _) (zC _) (zC _);rw [List.take_of_length_le zAV] at hp3;simp only [sliced, if_neg q3, Option.map_some, Addr.add_lit] at hp3;obtain ⟨newsS, hss, hns⟩ := SliceR.src kL kB.pos kB.ones hp3;have hdl : (xs.drop (i + 1)).length = xs.length - (i + 1) := List.length_drop ..;obtain ⟨W4, hr4, h4, hB4, hz4, ho4⟩ := zAL (ty := 3) kL kB.tag qV h3d (p := i + 2) (q := xs.length + 1) (ys := xs.drop (i + 1)) qC (by have := (SliceR.len h3d).1; omega) qC qC hss hns;simp only [Nat.zero_add] at hr3 hr4;rw [show xs.length + 1 - (i + 2) = xs.length - (i + 1) by omega] at hr4;have HR1 := zA hr1;have HR3 := zA hr3;have HR4 := zA hr4
 have hfr : ∀ k : Nat, k < w.heap.size → k ≠ b → W4.heap[k]? = w.heap[k]? := fun k hk _ => by
  have hk' : k < W1.heap.size := Nat.lt_of_lt_of_le hk hk1.size;exact (ho4 k (Nat.ne_of_lt hk')).trans ((ho3 k (Nat.ne_of_lt hk')).trans ((hB2.block k hk').trans (hk1.block k hk)))
 have H4 := zA (zB h4 (zB ((((hk1.mono hn).trans (hB2.mono hn2)).trans (hB3 n hn2)).drew.trans (hB4 n hn2)) hfr));have q6 : ¬ cap = i := by omega
 have q7 : ¬ cap = i + 2 := by omega
 clear h1 ht h2 hB2 hv2 hs2 hsv hnv h3 hB3 hz3 ho3 hs3 hs3d h3d hp3 hss hns h4 hB4 hz4 ho4 hr1 hr3 hr4 hbW hbV hln2 hl2 hdl hfr;go_wp2_with (first | (at_builtin; refine Lib.wpList_append_run _ rfl _ _ _ _ rfl _ _ rfl (zBo qC) _ _ HR1.out ?_) | (refine zCr _ rfl _ _ _ _ rfl _ _ rfl rfl _ _ HR3.out ?_));have w1 : IntKind.i64.wrap ((i : Int) + 2) = (i : Int) + 2 := IntWalk.i64_in _ qC;have w2 : (0 : Int) ≤ (i : Int) + 2 := by omega
 have w3 : ((i : Int) + 2).toNat = i + 2 := by omega
 have w4 : (i : Int) + 2 ≤ (xs.length : Int) + 1 := by omega
 have w5 : (0 : Int) ≤ (i : Int) + 1 := by omega
 have w6 : (i : Int) + 1 ≤ (xs.length : Int) := by omega
 have w7 : ((i : Int) + 1).toNat = i + 1 := by omega
 go_region_held3 (fun _ => True) (trivial) ((refine zCx xX _ _ _ _ xX _ _ xX xX _ _ HR4.out ?_));go_wp2_with fail;go_ret;refine ⟨_, rfl, ?_, H4.out.2.1, H4.out.2.2⟩;have h9 := H4.out.1
 have e9 : ((xs.take i ++ List.replicate (xs.length + 1 - i) (⟨0, [], 0, []⟩ : Lin)).take i ++ [e1, e2] ++ (xs.take i ++ List.replicate (xs.length + 1 - i) (⟨0, [], 0, []⟩ : Lin)).drop (i + [e1, e2].length)).take (i + 2) ++ xs.drop (i + 1) ++ ((xs.take i ++ List.replicate (xs.length + 1 - i) (⟨0, [], 0, []⟩ : Lin)).take i ++ [e1, e2] ++ (xs.take i ++ List.replicate (xs.length + 1 - i) (⟨0, [], 0, []⟩ : Lin)).drop (i + [e1, e2].length)).drop (i + 2 + (xs.drop (i + 1)).length) = xs.take i ++ [e1, e2] ++ xs.drop (i + 1) := by
  have f1 : (xs.take i).length = i := by rw [List.length_take]; omega
  have f2 : (xs.take i ++ List.replicate (xs.length + 1 - i) (⟨0, [], 0, []⟩ : Lin)).take i = xs.take i := List.take_left' f1;rw [f2];obtain ⟨R', hR'⟩ : ∃ R', (xs.take i ++ List.replicate (xs.length + 1 - i) (⟨0, [], 0, []⟩ : Lin)).drop (i + [e1, e2].length) = R' := ⟨_, rfl⟩
  have f3 : R'.length = xs.length + 1 - (i + 2) := by
   rw [← hR', List.length_drop, zS, List.length_replicate, f1];simp only [List.length_cons, List.length_nil]
   omega
  rw [hR']
  have f4 : (xs.take i ++ [e1, e2] ++ R').drop (i + 2 + (xs.drop (i + 1)).length) = [] := List.drop_eq_nil_of_le (by
   rw [zS, zS, List.length_drop, f1, f3];simp only [List.length_cons, List.length_nil]
   omega)
  rw [f4, List.append_nil, List.take_left' (by rw [zS, f1]; rfl)]
 rw [e9] at h9;exact h9
end Go.Proofs.YtjgeadoncanheaaGreatDoor
namespace Go.Proofs.Qw
open Go.RowKit Go.Proofs.YtjgeadoncanheaaGreatDoor
theorem SliceR.avoid {α : Type} {s t : TypeId} {k : Nat} {enc : α → List Value} {w : World} {S : Nat → Prop} {v : Value} {xs : List α} (h : SliceR s k (rdOf enc) true w S v xs) {b : Nat} {cs : Array Value} (hb : w.heap[b]? = some (.cells cs t)) (hst : s ≠ t) : SliceR s k (rdOf enc) true w (fun d => S d ∧ d ≠ b) v xs := by
 obtain ⟨a, c, e, hc, hm, hx⟩ := h;refine ⟨a, c, e, hc, hm, ?_⟩;rcases hx with h1 | ⟨d, o, e, hd, hz, hf, he⟩
 ·exact .inl h1
 ·obtain ⟨cs2, g1, g2⟩ := hf rfl
  exact .inr ⟨d, o, e, ⟨hd, fun e2 => by subst e2; rw [hb] at g1; cases g1; exact hst rfl⟩, hz, hf, he⟩
theorem DocR.avoid {w : World} {S : Nat → Prop} {vb vo n c : Nat} {xs : List Lin} (h : DocR true w S (.slice (some ⟨vb, vo, none⟩) n c) xs) {b : Nat} {cs : Array Value} (hb : w.heap[b]? = some (.cells cs 47)) (hne : vb ≠ b) : DocR true w (fun d => S d ∧ d ≠ b) (.slice (some ⟨vb, vo, none⟩) n c) xs := by
 obtain ⟨a, c', e, hc, hm, hx⟩ := h;refine ⟨a, c', e, hc, hm, ?_⟩;rcases hx with h1 | ⟨d, o, e2, hd, hz, hf, he⟩
 ·exact .inl h1
 ·subst e2
  cases e;refine .inr ⟨vb, vo, rfl, ⟨hd, hne⟩, hz, hf, fun i x hi => ?_⟩;obtain ⟨vs, r1, ⟨p, q, r2, r3, r4⟩, r5⟩ := he i x hi;exact ⟨vs, r1, ⟨p, q, r2, r3.avoid hb qV, r4.avoid hb qV⟩, r5⟩
end Go.Proofs.Qw
namespace Go.Proofs.YtjgeadoncanheaaGreatDoor
open Go.RowKit
open Go.Proofs.Qw
attribute [local go_sem ↓] Go.wp_at_zero Go.wp_at_succ
open _root_.Go.Proofs.Qw renaming jW → zZ
open _root_.Go.Proofs.Qw.SliceR renaming below → qH
set_option maxRecDepth 100000 in
theorem zGl (b o ln c vb vo vc : Nat) (xs : List Lin) (e1 e2 : Lin) (i n : Nat) (w : World) (h : DocR true w (fun b => n ≤ b) (.slice (some ⟨b, o, none⟩) ln c) xs) (hv : DocR true w (fun b => n ≤ b) (.slice (some ⟨vb, vo, none⟩) 2 vc) [e1, e2]) (hne : vb ≠ b)
  (hn : n ≤ w.heap.size) (hij : i + 1 < xs.length) (hlen : xs.length ≤ 1000000) (hcap : xs.length + 1 ≤ c) :
  Calls Tryz.prog 173 #[.slice (some ⟨b, o, none⟩) ln c, .int .i64 i, .int .i64 ((i + 1 : Nat) : Int), .slice (some ⟨vb, vo, none⟩) 2 vc] w fun e' w' => ∃ v', e' = .returned v' ∧ DocR true w' (fun b => n ≤ b) v' (xs.take i ++ [e1, e2] ++ xs.drop (i + 1)) ∧ Below n w w' ∧ ∀ k : Nat, k < w.heap.size → k ≠ b → w'.heap[k]? = w.heap[k]? := by
 obtain ⟨rfl, hc, hm⟩ := SliceR.len h;have hcc : c ≤ 9223372036854775807 := hm;have H := Lib.hid (And.intro h hv);have t1 : ((i : Int) == (i : Int) + 1) = false := beq_eq_false_iff_ne.2 qC;have t2 : ((i : Int) + 1 == (xs.length : Int)) = false := beq_eq_false_iff_ne.2 qC;have q1 : ¬ c = i := by omega
 have q3 : ¬ c = i + 1 := by omega
 have q4 : ¬ c = i + 2 := by omega
 have hbn : n ≤ b := by
  obtain ⟨b', o', cs, e, hb, _⟩ := SliceR.cellAt h (i := 0) qC;cases e;exact hb
 clear h hv;go_enter Tryz.func173, Tryz.ntmps173;go_wp2_with fail;go_quiet (fail);have hk1 : Below w.heap.size w (w.drewN nq) := jN (Below.refl _ _);obtain ⟨W1, hW1⟩ : ∃ W1, w.drewN nq = W1 := ⟨_, rfl⟩;rw [hW1] at hk1 ⊢;have h1 := qH (zZ true) H.out.1 hk1;have hv1 := qH (zZ true) H.out.2 hk1;obtain ⟨b', o', cs, eb, _, hgb, hszb⟩ := SliceR.cellAt h1 (i := 0) qC;cases eb;obtain ⟨vb', vo', csv, ev, _, hgv, hszv⟩ := SliceR.cellAt hv1 (i := 0) qE;cases ev
 have hov : ∀ la ca, (callFunc 217 #[.slice (some ⟨b, o + (i + 2) * 4, none⟩) la ca, .slice (some ⟨vb, vo, none⟩) 2 vc]).run Tryz.prog W1 = .ok (.value (.bool false)) W1 := fun la ca => by
  rw [run_callFunc_extern Tryz.func217 zT zT zT (e := Extern.SlicesOverlaps.overlaps #[22, 22] #[4]) zT,
   Lib.run_overlaps_apart W1 22 4 47 Tryz.underlying22 4 (fun w => by obtain ⟨i0, z, h1, _, h2, _⟩ := kL.info; simp [sizeOf, typeInfo, h1, h2]) ⟨b, o + (i + 2) * 4, none⟩ ⟨vb, vo, none⟩ la ca 2 vc (fun e => hne e.symm) 47 47 cs.size csv.size
    (by simp [World.shape?, hgb]) (by simp [World.shape?, hgv]) qC (xF hgb) (xF hgb)]
  rfl
 have h1d := qH (zZ true) h1 (Below.refl _ _).drew;have hp := SliceR.part h1d (i := i + 1) (j := xs.length) (m := c) qC (Nat.le_refl _) hc (Nat.le_refl _);rw [List.take_of_length_le zAV] at hp;simp only [sliced, if_neg q3, Option.map_some, Addr.add_lit] at hp;obtain ⟨newsS, hss, hns⟩ := SliceR.src kL kB.pos kB.ones hp;have hdl : ((xs.drop (i + 1)).map some).length = xs.length - (i + 1) := by rw [List.length_map, List.length_drop]
 have hx := SliceR.extend (SliceR.opt h1d) (m := xs.length + 1) qC hcap;rw [show xs.length + 1 - xs.length = 1 by omega] at hx;have hzl : (xs.map some ++ List.replicate 1 (none : Option Lin)).length = xs.length + 1 := by simp
 obtain ⟨W2, hr2, h2, hB2, hz2, ho2⟩ := zAL (ty := 3) kL (zDU kB.tag) qV hx (p := i + 2) (q := xs.length + 1) (ys := (xs.drop (i + 1)).map some) hcap (by rw [hzl, hdl]; omega) (by rw [hdl]; omega) qC (by rw [List.length_map]; exact hss) (NewsR.opt hns);have hva := SliceR.stable (zZ true) (qH (zZ true) (DocR.avoid hv1 hgb hne) (Below.refl _ _).drew) (Keeps.only (S := fun d => n ≤ d ∧ d ≠ b) hz2 ho2 qE) (fun d h _ => h.1);obtain ⟨newsV, hsv, hnv⟩ := SliceR.src kL kB.pos kB.ones hva;have hl2 := (SliceR.len h2).1;obtain ⟨W3, hr3, h3, hB3, hz3, ho3⟩ := zAL (ty := 3) kL (zDU kB.tag) qV h2 (p := i) (q := xs.length + 1) (ys := [some e1, some e2]) hcap (by show i + 2 ≤ _; omega) (by show i + 2 ≤ _; omega) qC hsv (NewsR.opt hnv);rw [show xs.length + 1 - (i + 2) = xs.length - (i + 1) by omega] at hr2;rw [show xs.length + 1 - i = i + 2 + (xs.length - (i + 1)) - i by omega] at hr3;have HR2 := Lib.hid hr2;have HR3 := Lib.hid hr3;have hfr : ∀ k : Nat, k < w.heap.size → k ≠ b → W3.heap[k]? = w.heap[k]? := fun k hk hne => (ho3 k hne).trans ((ho2 k hne).trans (hk1.block k hk));have H3 := Lib.hid (And.intro h3 (And.intro ((((hk1.mono hn).drew).trans (hB2 n hbn)).trans (hB3 n hbn)) hfr));have q9 : (i : Int) + 2 + ((xs.length - (i + 1) : Nat) : Int) ≤ (c : Int) := by omega
 clear h1 hv1 hgb hszb hgv hszv h1d hp hss hns hdl hx hzl hr2 h2 hB2 hz2 ho2 hva hsv hnv hl2 hr3 h3 hB3 hz3 ho3 hfr;go_wp2_with fail;have w1 : IntKind.i64.wrap ((i : Int) + 2) = (i : Int) + 2 := IntWalk.i64_in _ qC;have w2 : (0 : Int) ≤ (i : Int) + 2 := by omega
 have w3 : ((i : Int) + 2).toNat = i + 2 := by omega
 have w4 : (i : Int) + 2 ≤ (xs.length : Int) + 1 := by omega
 have w5 : (0 : Int) ≤ (i : Int) + 1 := by omega
 have w6 : (i : Int) + 1 ≤ (xs.length : Int) := by omega
 have w7 : ((i : Int) + 1).toNat = i + 1 := by omega
 have w8 : (i : Int) + 2 ≤ (i : Int) + 2 + ((xs.length - (i + 1) : Nat) : Int) := by omega
 go_region_held3 (fun _ => True) (trivial) ((refine zCx xX _ _ _ _ xX _ _ xX xX _ _ HR2.out ?_));clear w1;go_wp2_with (refine zCr _ rfl _ _ _ _ rfl _ _ rfl rfl _ _ HR3.out ?_);go_ret;have hT : i + 2 + (xs.length - (i + 1)) = xs.length + 1 := by omega
 have h9 := H3.out.1
 have e9 : ((xs.map some ++ List.replicate 1 (none : Option Lin)).take (i + 2) ++ (xs.drop (i + 1)).map some ++ (xs.map some ++ List.replicate 1 (none : Option Lin)).drop (i + 2 + ((xs.drop (i + 1)).map some).length)).take i ++ [some e1, some e2] ++
   ((xs.map some ++ List.replicate 1 (none : Option Lin)).take (i + 2) ++ (xs.drop (i + 1)).map some ++ (xs.map some ++ List.replicate 1 (none : Option Lin)).drop (i + 2 + ((xs.drop (i + 1)).map some).length)).drop (i + [some e1, some e2].length) = (xs.take i ++ [e1, e2] ++ xs.drop (i + 1)).map some := by
  have f0 : (xs.map some ++ List.replicate 1 (none : Option Lin)).drop (i + 2 + ((xs.drop (i + 1)).map some).length) = [] := List.drop_eq_nil_of_le jB;have f1 : ((xs.map some ++ List.replicate 1 (none : Option Lin)).take (i + 2)).length = i + 2 := by simp; omega
  have f2 : ((xs.map some ++ List.replicate 1 (none : Option Lin)).take (i + 2)).take i = (xs.take i).map some := by
   rw [List.take_take, Nat.min_eq_left qC, List.take_append_of_le_length jB, List.map_take]
  rw [f0, List.append_nil, List.take_append_of_le_length qC, f2, List.drop_left' (by rw [f1]; rfl)]
  simp
 rw [e9] at h9;refine ⟨_, rfl, ?_, H3.out.2.1, H3.out.2.2⟩
 show SliceR _ _ _ _ _ _ (.slice (some ⟨b, o, none⟩) (i + 2 + (xs.length - (i + 1))) c) _
 rw [hT];exact SliceR.unopt h9
theorem zEe (b o ln c vb vo vc : Nat) (xs : List Lin) (e : Lin) (i j n : Nat) (w : World) (h : DocR true w (fun b => n ≤ b) (.slice (some ⟨b, o, none⟩) ln c) xs) (hv : DocR true w (fun b => n ≤ b) (.slice (some ⟨vb, vo, none⟩) 1 vc) [e]) (hne : vb ≠ b)
  (hij : i < j) (hj : j ≤ xs.length) (hlen : xs.length ≤ 1000000) :
  Calls Tryz.prog 173 #[.slice (some ⟨b, o, none⟩) ln c, .int .i64 i, .int .i64 j, .slice (some ⟨vb, vo, none⟩) 1 vc] w fun e' w' => ∃ v', e' = .returned v' ∧ DocR true w' (fun b => n ≤ b) v' (xs.take i ++ [e] ++ xs.drop j) ∧ Below n w w' := by
 by_cases hl : j < xs.length
 ·exact zHG b o ln c vb vo vc xs e i j n w h hv hne hij hl hlen
 ·obtain rfl : j = xs.length := by omega
  have := zHH b o ln c vb vo vc xs e i n w h hv hne hij hlen;rw [List.drop_length, List.append_nil];exact this
theorem zEd (b o ln c vb vo vc : Nat) (xs : List Lin) (e1 e2 : Lin) (i n : Nat) (w : World) (h : DocR true w (fun b => n ≤ b) (.slice (some ⟨b, o, none⟩) ln c) xs) (hv : DocR true w (fun b => n ≤ b) (.slice (some ⟨vb, vo, none⟩) 2 vc) [e1, e2]) (hne : vb ≠ b)
  (hn : n ≤ w.heap.size) (hij : i < xs.length) (hlen : xs.length ≤ 1000000) :
  Calls Tryz.prog 173 #[.slice (some ⟨b, o, none⟩) ln c, .int .i64 i, .int .i64 ((i + 1 : Nat) : Int), .slice (some ⟨vb, vo, none⟩) 2 vc] w fun e' w' => ∃ v', e' = .returned v' ∧ DocR true w' (fun b => n ≤ b) v' (xs.take i ++ [e1, e2] ++ xs.drop (i + 1)) ∧ Below n w w' ∧ ∀ k : Nat, k < w.heap.size → k ≠ b → w'.heap[k]? = w.heap[k]? := by
 by_cases hl : i + 1 < xs.length
 ·by_cases hc : xs.length + 1 ≤ c
  ·exact zGl b o ln c vb vo vc xs e1 e2 i n w h hv hne hn hl hlen hc
  ·exact zGa b o ln c vb vo vc xs e1 e2 i n w h hv hn hl hlen qC
 ·have he : i + 1 = xs.length := by omega
  have := zGc b o ln c vb vo vc xs e1 e2 i n w h hv hn he hlen;rw [he, List.drop_length, List.append_nil];exact this
end Go.Proofs.YtjgeadoncanheaaGreatDoor
namespace Go.Proofs.YtjgeadoncanheaaGreatDoor
open Go.RowKit
open Go.Proofs.Qw
open _root_.Go.Lib renaming hid → zA
open _root_.Go.Proofs.Tryz renaming prog → zV
theorem zHX (l : Lin) (b o : Nat) (la ca : Option Addr) (lc cc : Nat) (w w0 : World) (S : Nat → Prop) (hA : LinAt w0 S b o l la lc ca cc)
  (he : EnvT w) (h0 : Below w0.heap.size w0 w) (hs : ∀ c ∈ l.cells, c.href.length ≤ 1000000) :
  Calls zV 90 #[.agg #[.int .i64 l.quote, .slice la l.lists.length lc, .int .i64 l.kind, .slice ca l.cells.length cc]] w fun e w' => e = .returned (.bool (!mayL l)) ∧ Below w.heap.size w w' := by
 obtain ⟨W1, hW1⟩ : ∃ W1, w.alloc (.cells #[.int .i64 l.quote, .slice la l.lists.length lc, .int .i64 l.kind, .slice ca l.cells.length cc] 47) = W1 := ⟨_, rfl⟩;have hB : Below w.heap.size w W1 := hW1 ▸ (Below.refl _ _).alloc (Nat.le_refl _) _;have k0 : W1.cell? ⟨w.heap.size, 0, none⟩ = some (.int .i64 l.quote) := hW1 ▸ yS _ _ _ 0;have k1 : W1.cell? ⟨w.heap.size, 1, none⟩ = some (.slice la l.lists.length lc) := hW1 ▸ yS _ _ _ 1;have k2 : W1.cell? ⟨w.heap.size, 2, none⟩ = some (.int .i64 l.kind) := hW1 ▸ yS _ _ _ 2;have k3 : W1.cell? ⟨w.heap.size, 3, none⟩ = some (.slice ca l.cells.length cc) := hW1 ▸ yS _ _ _ 3;have HC := zA (zBK l la ca lc cc W1 w0 S hA.listsR hA.cellsR (he.below hB) (jF h0 hB) hs)
 generalize mayL l = r at *
 clear hA;go_enter Tryz.func90, Tryz.ntmps90;go_wp2_with (go_at_call 91; refine HC.out.mono ?_; rintro e w1 ⟨rfl, hb1⟩);go_ret;exact ⟨rfl, hB.trans (hb1.mono hB.size)⟩
theorem zEL (v : Value) (d : Doc) (w w0 : World) (S : Nat → Prop) (h : jE w0 S v d) (he : EnvT w) (h0 : Below w0.heap.size w0 w) (hs : Small d) :
  Calls zV 47 #[v] w fun e w' => e = .returned (.bool (mayD d)) ∧ Below w.heap.size w w' := by
 have HC1 := zA (zDa v d w w0 S h h0 hs.1)
 have HC2 : Hid (∀ W, EnvT W → Below w0.heap.size w0 W → Calls zV 89 #[v, .func (.func 90) #[] #[]] W fun e w' => e = .returned (.bool (d.any fun l => !mayL l)) ∧ Below W.heap.size W w') := zA fun W h1 h2 =>
  zGb v d (fun l => !mayL l) 90 #[] (enters_of Tryz.func90 zT rfl) W w0 S h h1 h2 (fun i l W' b o la lc ca cc hi hA h1 h2 _ => zHX l b o la ca lc cc W' w0 S hA h1 h2 (hs.2.2 l (List.mem_of_getElem? hi)))
 have HE : Hid (mayD d = (decide (1 ≤ (d.length : Int)) && (decide ((d.length : Int) ≤ 200) && (decide ((jU d : Int) ≤ 4000) && !(d.any fun l => !mayL l))))) := zA (by
  unfold mayD;rw [List.any_eq_not_all_not, Bool.not_not, Bool.and_assoc, Bool.and_assoc];rw [show decide (1 ≤ d.length) = decide (1 ≤ (d.length : Int)) from decide_eq_decide.2 qC, show decide (d.length ≤ 200) = decide ((d.length : Int) ≤ 200) from decide_eq_decide.2 qC, show decide (jU d ≤ 4000) = decide ((jU d : Int) ≤ 4000) from decide_eq_decide.2 qC]
  simp)
 obtain ⟨a, c, rfl⟩ := h.slice
 generalize (d.any fun l => !mayL l) = x at *
 generalize mayD d = r at *
 generalize jU d = z at *
 clear h;go_enter Tryz.func47, Tryz.ntmps47;go_wp2_with (first | (go_at_call 88; refine HC1.out.mono ?_; rintro e w1 ⟨rfl, hb1⟩; have he1 := he.below hb1; have hw1 := jF h0 hb1) | (go_at_call 89; refine (HC2.out _ jA jA).mono ?_; rintro e w2 ⟨rfl, hb2⟩; have hb4 := Below.trans hb1 (hb2.mono (Below.size hb1))))
 all_goals
  go_ret;refine ⟨?_, by first | assumption | exact Below.refl _ _⟩;rw [HE.out];refine congrArg Ending.returned (congrArg Value.bool ?_);clear HE HC1 HC2;simp (config := { failIfUnchanged := false }) [*]
 all_goals try omega
def kF (d : Doc) (a b : Ps) : Bool := mayD d && isD d a && isD d b && decide (cmpP a b ≤ 0)
theorem vA (w : World) (a b c d : Value) : ∃ W1, (w.alloc (.cells #[a, b] 24)).alloc (.cells #[c, d] 24) = W1 ∧ Below w.heap.size w W1 ∧ w.heap.size + 2 = W1.heap.size ∧
  W1.heap[w.heap.size]? = some (.cells #[a, b] 24) ∧ W1.heap[w.heap.size + 1]? = some (.cells #[c, d] 24) :=
 ⟨_, rfl, ((Below.refl _ _).alloc (Nat.le_refl _) _).alloc qE _, by simp, jH _ _ (jD _ _ rfl), jD _ _ qE⟩
set_option maxRecDepth 100000 in
theorem zAk (v : Value) (d : Doc) (a b : Ps) (w : World) (S : Nat → Prop) (h : jE w S v d) (he : EnvT w) (hs : Small d) :
  Calls zV 154 #[v, posV a, posV b] w fun e w' => e = .returned (.bool (kF d a b)) ∧ Below w.heap.size w w' := by
 obtain ⟨W1, hW1, hB, hz, hA1, hA2⟩ := vA w (.int .i64 a.line) (.int .i64 a.col) (.int .i64 b.line) (.int .i64 b.col);have hs1 := hB.size;have HC1 := zA (zEL v d W1 w S h (he.below hB) hB hs);have HC2 : Hid (∀ p W, Below W1.heap.size W1 W → Calls zV 48 #[v, posV p] W fun e w' => e = .returned (.bool (isD d p)) ∧ Below W.heap.size W w') := zA fun p W hW => zDn v d p W w S h (hB.trans (hW.mono hs1));have HC3 : Hid (∀ W, Calls zV 92 #[posV a, posV b] W fun e w' => e = .returned (.int .i64 (cmpP a b)) ∧ Below W.heap.size W w') := zA fun W => zFM a b W;have HB : Hid (∀ W, Below W1.heap.size W1 W → W.heap[w.heap.size]? = some (.cells #[.int .i64 a.line, .int .i64 a.col] 24) ∧ W.heap[w.heap.size + 1]? = some (.cells #[.int .i64 b.line, .int .i64 b.col] 24)) := zA fun W hW => ⟨jG hW hA1, jG hW hA2⟩;have HE : Hid (kF d a b = (mayD d && (isD d a && (isD d b && decide (cmpP a b ≤ 0))))) := zA (by unfold kF; rw [Bool.and_assoc, Bool.and_assoc]);have HP : Hid (∀ p : Ps, posV p = .agg #[.int .i64 p.line, .int .i64 p.col]) := zA fun _ => rfl;have H1 := zA hB;obtain ⟨va, vc, rfl⟩ := h.slice;clear h he hs hz hA1 hA2 hB;rw [HP.out a, HP.out b]
 generalize kF d a b = r at *
 generalize mayD d = x at *
 generalize cmpP a b = u at *
 go_enter Tryz.func154, Tryz.ntmps154
 go_wp2_with (first
  | (go_at_call 47; refine HC1.out.mono ?_; rintro e w2 ⟨rfl, hb2⟩; obtain ⟨p3, f3⟩ := blk (HB.out _ hb2).1; obtain ⟨p4, f4⟩ := blk (HB.out _ hb2).2; cases x)
  | (go_at_call 48; refine (HC2.out _ _ jA).mono ?_; rintro e w3 ⟨rfl, hb3⟩; have hx3 : Below W1.heap.size W1 w3 := jF jA hb3; clear hb3; obtain ⟨p5, f5⟩ := blk (HB.out _ hx3).1; obtain ⟨p6, f6⟩ := blk (HB.out _ hx3).2)
  | (go_at_call 92; refine (HC3.out _).mono ?_; rintro e w5 ⟨rfl, hb5⟩; have hx5 : Below W1.heap.size W1 w5 := jF jA hb5; clear hb5))
 all_goals
  go_ret;refine ⟨?_, H1.out.trans (Below.mono jA hs1)⟩;rw [HE.out];refine congrArg Ending.returned (congrArg Value.bool ?_);clear HE HC1 HC2 HC3 HB HP H1;simp (config := { failIfUnchanged := false }) [*]
end Go.Proofs.YtjgeadoncanheaaGreatDoor
namespace Go.Proofs.YtjgeadoncanheaaGreatDoor
open Go.RowKit
open Go.Proofs.Qw
attribute [local go_sem ↓] Go.wp_at_zero Go.wp_at_succ
open _root_.Go.Lib renaming hid → zA
open _root_.Nat renaming le_refl → zC
open _root_.List renaming getElem?_eq_some_iff → zK, length_append → zS
open _root_.Int renaming natCast_nonneg → zR
open _root_.Go.Proofs.Qw renaming jW → zZ, jV → qB
open _root_.Go.Proofs.Qw.SliceR renaming stable → qG
def zAa (d : Doc) (a b : Ps) : Doc :=
 d.take a.line.toNat ++ [{ (d.getD a.line.toNat default) with cells := (d.getD a.line.toNat default).cells.take a.col.toNat ++ (d.getD b.line.toNat default).cells.drop b.col.toNat }] ++ d.drop (b.line.toNat + 1)
def xI (d : Doc) (a b : Ps) : Doc × Int := if kF d a b = true then (zAa d a b, 0) else ([], 1)
theorem vS {d : Doc} {a b : Ps} (h : kF d a b = true) : mayD d = true ∧ ∃ (i j p q : Nat) (l m : Lin), a = ⟨i, p⟩ ∧ b = ⟨j, q⟩ ∧ d[i]? = some l ∧ d[j]? = some m ∧ p ≤ l.cells.length ∧ q ≤ m.cells.length ∧ i ≤ j ∧ (i = j → p ≤ q) := by
 unfold kF at h;simp only [Bool.and_eq_true, decide_eq_true_eq] at h;obtain ⟨⟨⟨h1, h2⟩, h3⟩, h4⟩ := h;obtain ⟨ai, ap⟩ := a;obtain ⟨bj, bq⟩ := b
 have key : ∀ x y : Int, isD d ⟨x, y⟩ = true → ∃ (i p : Nat) (l : Lin), x = i ∧ y = p ∧ d[i]? = some l ∧ p ≤ l.cells.length := by
  intro x y hx
  by_cases hi : 0 ≤ x ∧ x < d.length
  ·obtain ⟨i, rfl⟩ := Int.eq_ofNat_of_zero_le hi.1
   obtain ⟨l, hl, _⟩ := jO d i qC;rw [zAJ hl] at hx;simp only [Bool.and_eq_true, decide_eq_true_eq] at hx;obtain ⟨p, rfl⟩ := Int.eq_ofNat_of_zero_le hx.1;exact ⟨i, p, l, rfl, rfl, hl, by omega⟩
  ·rw [zBn hi] at hx
   cases hx
 obtain ⟨i, p, l, rfl, rfl, hl, hp⟩ := key _ _ h2;obtain ⟨j, q, m, rfl, rfl, hm, hq⟩ := key _ _ h3;refine ⟨h1, i, j, p, q, l, m, rfl, rfl, hl, hm, hp, hq, ?_, ?_⟩
 ·unfold cmpP cmpI at h4
  simp only at h4
  by_cases e : (i : Int) < j
  ·omega
  ·by_cases e2 : (j : Int) < i
   ·simp [e, e2] at h4
   ·omega
 ·intro e
  subst e;unfold cmpP cmpI at h4;simp at h4
  split at h4
  ·omega
  ·split at h4
   ·omega
   ·omega
theorem zAA {d : Doc} {i j p q : Nat} {l m : Lin} (hl : d[i]? = some l) (hm : d[j]? = some m) : zAa d ⟨i, p⟩ ⟨j, q⟩ = d.take i ++ [{ l with cells := l.cells.take p ++ m.cells.drop q }] ++ d.drop (j + 1) := by
 unfold zAa;simp [List.getD, hl, hm]
theorem uU {w : World} {S : Nat → Prop} {v : Value} {d : List Lin} (h : DocR true w S v d) {i : Nat} {l : Lin} (hl : d[i]? = some l) : ∃ b o c la lc ca cc, v = .slice (some ⟨b, o, none⟩) d.length c ∧ d.length ≤ c ∧ c ≤ maxLen ∧ LinAt w S b (o + i * 4) l la lc ca cc ∧
  jI true w S (.slice la l.lists.length lc) l.lists ∧ jC true w S (.slice ca l.cells.length cc) l.cells ∧ S b := by
 obtain ⟨a, c, rfl, hc, hm, hx⟩ := SliceR.shape_own h;obtain ⟨b, o, vs, cs, rfl, hz, hb, g1, g2, _, ⟨x, y, rfl, h1, h2⟩, he⟩ := hx i l hl;obtain ⟨la, lc, rfl⟩ := h1.slice;obtain ⟨ca, cc, rfl⟩ := h2.slice;exact ⟨b, o, c, la, lc, ca, cc, rfl, hc, hm, ⟨hz, he 0 _ rfl, he 1 _ rfl, he 2 _ rfl, he 3 _ rfl, h1.read fun _ _ h => h, h2.read fun _ _ h => h⟩, h1, h2, hb⟩
theorem zFL {W : World} {S : Nat → Prop} {l : Lin} {a b : Value} (hI : jI true W S a l.lists) (hC : jC true W S b l.cells) (hS : S W.heap.size) : DocR true (W.alloc (.cells #[.int .i64 l.quote, a, .int .i64 l.kind, b] 47)) S (.slice (some ⟨W.heap.size, 0, none⟩) 1 1) [l] := by
 have hk : Below W.heap.size W (W.alloc (.cells #[.int .i64 l.quote, a, .int .i64 l.kind, b] 47)) := (Below.refl _ _).alloc (zC _) _;refine ⟨_, 1, rfl, by simp, by decide, .inr ⟨W.heap.size, 0, rfl, hS, by simp, fun _ => ⟨_, jD _ _ rfl, by simp⟩, fun i x hx => ?_⟩⟩
 match i, hx with
 | 0, hx =>
  cases hx
  exact ⟨_, rfl, ⟨a, b, rfl, hI.below (qB _) hk, hC.below (qB _) hk⟩, fun j u hu => by
   rw [jR (jD _ _ rfl), Nat.zero_mul, Nat.zero_add]
   simpa using hu⟩
def DocSaid (x : Doc × Int) (w : World) (e : Ending) (w' : World) : Prop := ∃ v', e = .returned (.tuple #[v', .int .i64 x.2]) ∧ DocR true w' (fun b => w.heap.size ≤ b) v' x.1 ∧ Below w.heap.size w w'
set_option maxRecDepth 100000 in
theorem zCA (v : Value) (d : Doc) (a b : Ps) (w : World) (S : Nat → Prop) (h : jE w S v d) (he : EnvT w) (hs : Small d) (hf : Fits d) :
  Calls Tryz.prog 120 #[v, posV a, posV b] w (DocSaid (xI d a b) w) := by
 obtain ⟨W1, hW1, hB, hz, hA1, hA2⟩ := vA w (.int .i64 a.line) (.int .i64 a.col) (.int .i64 b.line) (.int .i64 b.col);have hs1 := hB.size;have HC1 := zA (zAk v d a b W1 S (h.below (zZ _) hB) (he.below hB) hs);have HB : Hid (∀ W, Below W1.heap.size W1 W → W.heap[w.heap.size]? = some (.cells #[.int .i64 a.line, .int .i64 a.col] 24) ∧ W.heap[w.heap.size + 1]? = some (.cells #[.int .i64 b.line, .int .i64 b.col] 24)) := zA fun W hW => ⟨jG hW hA1, jG hW hA2⟩;have HP : Hid (∀ p : Ps, posV p = .agg #[.int .i64 p.line, .int .i64 p.col]) := zA fun _ => rfl;have H1 := zA hB;have HL := zA (h.below (zZ _) hB);obtain ⟨p1, f1⟩ := blk hA1;obtain ⟨p2, f2⟩ := blk hA2;obtain ⟨va, vc, rfl⟩ := h.slice;have HF := zA hf;have hlen := hf.1;clear h he hs hf hA1 hA2 hB;cases hsp : kF d a b
 ·have HR : Hid (xI d a b = ([], 1)) := zA (by unfold xI; rw [hsp]; rfl)
  rw [hsp] at HC1;clear hsp;rw [HP.out a, HP.out b] at HC1 ⊢;go_enter Tryz.func120, Tryz.ntmps120;go_wp2_with (go_at_call 154; refine HC1.out.mono ?_; rintro e w2 ⟨rfl, hb2⟩);go_ret2;unfold DocSaid;rw [HR.out];exact ⟨_, rfl, SliceR.nil _ _ _ _ _ _, H1.out.trans (hb2.mono hs1)⟩
 ·obtain ⟨_, i, j, p, q, l, m, rfl, rfl, hl, hm, hp, hq, hij, _⟩ := vS hsp
  have hil := (zK.1 hl).1;have hjl := (zK.1 hm).1;have HR : Hid (xI d ⟨i, p⟩ ⟨j, q⟩ = (d.take i ++ [{ l with cells := l.cells.take p ++ m.cells.drop q }] ++ d.drop (j + 1), 0)) := zA (by unfold xI; rw [hsp, if_pos rfl, zAA hl hm]);have hfl := HF.out.2 l (List.mem_of_getElem? hl);have hfm := HF.out.2 m (List.mem_of_getElem? hm);rw [hsp] at HC1;clear hsp;rw [HP.out, HP.out] at HC1 ⊢;obtain ⟨va', vc', hve, hvc, hvm, hx⟩ := kP HL.out;cases hve;obtain ⟨b1, o1, la, lc, ca, cc, rfl, hAi⟩ := hx i l hl;obtain ⟨b1', o1', la2, lc2, ca2, cc2, hbe, hAj⟩ := hx j m hm;cases hbe;have hccl := hAi.cellsR.len;have hcc2 := hAj.cellsR.len;have HAI := zA hAi;have HAJ := zA hAj;have HLL := zA (And.intro hl hm);have HO : Hid (∀ W, Below W1.heap.size W1 W → Calls Tryz.prog 167 #[.slice (some ⟨b1, o1, none⟩) d.length vc] W fun e w' => ∃ v', e = .returned v' ∧ DocR true w' (fun b => W.heap.size ≤ b) v' d ∧ Below W.heap.size W w') := zA fun W hW => zBf _ d W W1 S HL.out hW HF.out;unfold maxLen at hvm hccl hcc2;clear hx hAi hAj hl hm;have i0 : (0 : Int) ≤ (i : Int) := zR _;have i1 : (i : Int) < (d.length : Int) := by omega
  have j0 : (0 : Int) ≤ (j : Int) := zR _;have j1 : (j : Int) < (d.length : Int) := by omega
  go_enter Tryz.func120, Tryz.ntmps120
  go_wp2_with (first
   | (go_at_call 154; refine HC1.out.mono ?_; rintro e w2 ⟨rfl, hb2⟩)
   | (go_at_call 167; refine (HO.out _ hb2).mono ?_; rintro e w3 ⟨v3, rfl, hv3, hb3⟩; obtain ⟨b3, o3, c3, la3, lc3, ca3, cc3, rfl, hc3, hm3, hA3, hI3, hC3, hS3⟩ := uU (SliceR.bounded (zZ true) hv3) HLL.out.1; have hx31 : Below W1.heap.size W1 w3 := jF hb2 hb3; obtain ⟨p3, f3⟩ := blk (HB.out _ hx31).1; obtain ⟨p4, f4⟩ := blk (HB.out _ hx31).2; obtain ⟨hz3, g0, g1, g2, g3, _, _⟩ := hA3; have HV3 := zA (SliceR.bounded (zZ true) hv3); have HI3 := zA hI3; clear hv3 hI3 hC3; unfold maxLen at hm3))
  obtain ⟨W4, hW4⟩ : ∃ W4, w3.alloc (.cells #[.int .i64 l.quote, .slice la3 l.lists.length lc3, .int .i64 l.kind, .slice ca3 l.cells.length cc3] 47) = W4 := ⟨_, rfl⟩;rw [hW4];have hx41 : Below W1.heap.size W1 W4 := hW4 ▸ hx31.alloc hx31.size _;have hL4 : W4.heap[w3.heap.size]? = some (.cells #[.int .i64 l.quote, .slice la3 l.lists.length lc3, .int .i64 l.kind, .slice ca3 l.cells.length cc3] 47) := hW4 ▸ jD _ _ rfl;have hz4 : w3.heap.size + 1 = W4.heap.size := by rw [← hW4]; simp
  have HL4 : Hid (∀ W, Below W4.heap.size W4 W → W.heap[w3.heap.size]? = some (.cells #[.int .i64 l.quote, .slice la3 l.lists.length lc3, .int .i64 l.kind, .slice ca3 l.cells.length cc3] 47)) := zA fun W hW => jG hW hL4;obtain ⟨p5, f5⟩ := blk (HB.out _ hx41).1;obtain ⟨p6, f6⟩ := blk (HB.out _ hx41).2;obtain ⟨hzb, _, _, _, k3, _, _⟩ := HAI.out.below hx41;obtain ⟨_, _, _, _, m3, _, _⟩ := HAJ.out.below hx41;have hb1z : b1 < W1.heap.size := HAI.out.lt;have h13 := hx31.size;have n1 : ¬ w3.heap.size = b1 := by omega
  have n2 : ¬ w3.heap.size = w.heap.size := by omega
  have n3 : ¬ w3.heap.size = w.heap.size + 1 := by omega
  have u0 : (0 : Int) ≤ (p : Int) := zR _;have u1 : (p : Int) ≤ (cc : Int) := by omega
  have u2 : (0 : Int) ≤ (q : Int) := zR _;have u3 : (q : Int) ≤ (m.cells.length : Int) := by omega
  have hHC : ∀ (s2 : Value) W, Below W1.heap.size W1 W → jC false W S s2 (m.cells.drop q) → ∀ g, W.heap[g]? = some (.cells #[.slice ca p cc, s2] 44) → Calls Tryz.prog 179 #[.slice (some ⟨g, 0, none⟩) 2 2] W fun e w' => ∃ v', e = .returned v' ∧ jC true w' (fun b => W.heap.size ≤ b) v' (l.cells.take p ++ m.cells.drop q) ∧ Below W.heap.size W w' := by
   intro s2 W hW hR g hg;have h1 := (HAI.out.below hW).cellsR.take (i := p) qC
   have := zDE g 2 #[.slice ca p cc, s2] [l.cells.take p, m.cells.drop q] W S hg (fun k xs hk => by
    match k, hk with
    | 0, hk => cases hk; exact ⟨_, rfl, h1⟩
    | 1, hk => cases hk; exact ⟨_, rfl, hR⟩) (by simp [lens]; omega) qE rfl
   simpa using this
  have HC := zA hHC;have s14 := hx41.size;have hBd : ∀ X, Below W1.heap.size W1 (W4.alloc X).drew := fun X => (hx41.alloc s14 X).drew;clear hHC hL4 hfl hfm g0 g1 g2 g3
  have hpair : (∃ X, Hid (∀ W, Below W1.heap.size W1 W → jC false W S (.slice X (m.cells.length - q) (cc2 - q)) (m.cells.drop q)) ∧ ((q = cc2 ∧ ca2 = X) ∨ (¬ cc2 = q ∧ ca2.map (·.add (q * 3)) = X))) := by
   have hh : ∀ W, Below W1.heap.size W1 W → jC false W S (sliced ca2 q m.cells.length cc2 3) (m.cells.drop q) := fun W hW => by
    have := (HAJ.out.below hW).cellsR.part (i := q) (j := m.cells.length) (m := cc2) hq (zC _) qC (zC _)
    rwa [List.take_of_length_le zAV] at this
   by_cases hcq : cc2 = q
   ·exact ⟨ca2, fun W hW => by have := hh W hW; simpa only [sliced, if_pos hcq] using this, .inl ⟨hcq.symm, rfl⟩⟩
   ·exact ⟨_, fun W hW => by have := hh W hW; simpa only [sliced, if_neg hcq] using this, .inr ⟨hcq, rfl⟩⟩
  obtain ⟨X, HP2, hcq⟩ := hpair;rcases hcq with ⟨rfl, rfl⟩ | ⟨hcq, rfl⟩
  ·rw [Nat.sub_self, show m.cells.length - q = 0 by omega] at HP2
   go_region_held3 (fun w' => w'.cell? ⟨w.heap.size, 0, none⟩ = some (.int .i64 i) ∧ w'.cell? ⟨w.heap.size, 1, none⟩ = some (.int .i64 p) ∧ w'.cell? ⟨w.heap.size + 1, 0, none⟩ = some (.int .i64 j) ∧ w'.cell? ⟨w.heap.size + 1, 1, none⟩ = some (.int .i64 q) ∧ w'.cell? ⟨b1, o1 + i * 4 + 3, none⟩ = some (.slice ca l.cells.length cc) ∧ w'.cell? ⟨b1, o1 + j * 4 + 3, none⟩ = some (.slice ca2 m.cells.length q)) (go_keep)
    ((go_at_call 179; refine (HC.out _ _ (hBd _) (HP2.out _ (hBd _)) _ (jD _ _ rfl)).mono ?_; rintro e w5 ⟨v5, rfl, hv5, hb5⟩; obtain ⟨a5, c5, hv5e⟩ := hv5.slice; subst hv5e; have hx54 : Below W4.heap.size W4 w5 := jF (((Below.refl _ _).alloc (zC _) _).drew) hb5; have hx51 := jF hx41 hx54; obtain ⟨p7, f7⟩ := blk (HB.out _ hx51).1; obtain ⟨p8, f8⟩ := blk (HB.out _ hx51).2; obtain ⟨p9, f9⟩ := blk (HL4.out _ hx54); obtain ⟨_, _, _, _, k5, _, _⟩ := HAI.out.below hx51; obtain ⟨_, _, _, _, m5, _, _⟩ := HAJ.out.below hx51))
   go_wp2_with fail;have hl5 : (l.cells.take p ++ m.cells.drop q).length = p := by rw [zS, List.length_take, List.length_drop]; omega
   rw [hl5] at hv5;have hS3' : w2.heap.size ≤ b3 ∧ b3 < w3.heap.size := hS3;have hK : Keeps (fun b => w2.heap.size ≤ b ∧ b < w3.heap.size) w3 w5 := ((show Keeps (fun b => w2.heap.size ≤ b ∧ b < w3.heap.size) w3 W4 from hW4 ▸ (Keeps.refl _ _).alloc _)).on hx54;have hK6 := hK.set (p := ⟨w3.heap.size, 3, none⟩) qE (.slice a5 p c5);have hw2 := hb2.size;have hw3 := hb3.size;have hw5 := hx54.size;have hD6 := qG (zZ true) HV3.out (hK6.alloc (.cells #[.int .i64 l.quote, .slice la3 l.lists.length lc3, .int .i64 l.kind, .slice a5 p c5] 47)) (S' := fun b => w.heap.size ≤ b) (fun b h _ => by have := h.1; omega);have hI6 := qG (qB _) HI3.out hK6 (S' := fun b => w.heap.size ≤ b) (fun b h _ => by have := h.1; omega);have hC6 := qG (qB _) hv5 ((Keeps.refl _ _).set (p := ⟨w3.heap.size, 3, none⟩) jB (.slice a5 p c5)) (S' := fun b => w.heap.size ≤ b) (fun b h _ => by have h' : W4.heap.size + 1 ≤ b := (by simpa using h); omega);have hone := zFL (l := { l with cells := l.cells.take p ++ m.cells.drop q }) hI6 hC6 jB;have hC7 := zEe b3 o3 d.length c3 _ 0 1 d { l with cells := l.cells.take p ++ m.cells.drop q } i (j + 1) w.heap.size _ hD6 hone jB qC qC hlen;rw [show ((j + 1 : Nat) : Int) = (j : Int) + 1 by omega] at hC7;simp only [World.size_setCell] at hC7;have HC7 := zA hC7;clear hC7 hone hD6 hI6 hC6 hK6 hK
   with_reducible refine HC7.out.mono ?_
   rintro e w7 ⟨v7, rfl, hv7, hb7⟩;go_wp2_with fail;go_ret2;unfold DocSaid;rw [HR.out];exact ⟨_, rfl, hv7, ((((H1.out.trans (hx51.mono hs1)).setCell jB _).alloc jB _)).trans hb7⟩
  ·go_region_held3 (fun w' => w'.cell? ⟨w.heap.size, 0, none⟩ = some (.int .i64 i) ∧ w'.cell? ⟨w.heap.size, 1, none⟩ = some (.int .i64 p) ∧ w'.cell? ⟨w.heap.size + 1, 0, none⟩ = some (.int .i64 j) ∧ w'.cell? ⟨w.heap.size + 1, 1, none⟩ = some (.int .i64 q) ∧ w'.cell? ⟨b1, o1 + i * 4 + 3, none⟩ = some (.slice ca l.cells.length cc) ∧ w'.cell? ⟨b1, o1 + j * 4 + 3, none⟩ = some (.slice ca2 m.cells.length cc2)) (go_keep)
    ((go_at_call 179; refine (HC.out _ _ (hBd _) (HP2.out _ (hBd _)) _ (jD _ _ rfl)).mono ?_; rintro e w5 ⟨v5, rfl, hv5, hb5⟩; obtain ⟨a5, c5, hv5e⟩ := hv5.slice; subst hv5e; have hx54 : Below W4.heap.size W4 w5 := jF (((Below.refl _ _).alloc (zC _) _).drew) hb5; have hx51 := jF hx41 hx54; obtain ⟨p7, f7⟩ := blk (HB.out _ hx51).1; obtain ⟨p8, f8⟩ := blk (HB.out _ hx51).2; obtain ⟨p9, f9⟩ := blk (HL4.out _ hx54); obtain ⟨_, _, _, _, k5, _, _⟩ := HAI.out.below hx51; obtain ⟨_, _, _, _, m5, _, _⟩ := HAJ.out.below hx51))
   go_wp2_with fail;have hl5 : (l.cells.take p ++ m.cells.drop q).length = p + (m.cells.length - q) := by rw [zS, List.length_take, List.length_drop]; omega
   rw [hl5] at hv5;have hS3' : w2.heap.size ≤ b3 ∧ b3 < w3.heap.size := hS3;have hK : Keeps (fun b => w2.heap.size ≤ b ∧ b < w3.heap.size) w3 w5 := ((show Keeps (fun b => w2.heap.size ≤ b ∧ b < w3.heap.size) w3 W4 from hW4 ▸ (Keeps.refl _ _).alloc _)).on hx54;have hK6 := hK.set (p := ⟨w3.heap.size, 3, none⟩) qE (.slice a5 (p + (m.cells.length - q)) c5);have hw2 := hb2.size;have hw3 := hb3.size;have hw5 := hx54.size;have hD6 := qG (zZ true) HV3.out (hK6.alloc (.cells #[.int .i64 l.quote, .slice la3 l.lists.length lc3, .int .i64 l.kind, .slice a5 (p + (m.cells.length - q)) c5] 47)) (S' := fun b => w.heap.size ≤ b) (fun b h _ => by have := h.1; omega);have hI6 := qG (qB _) HI3.out hK6 (S' := fun b => w.heap.size ≤ b) (fun b h _ => by have := h.1; omega);have hC6 := qG (qB _) hv5 ((Keeps.refl _ _).set (p := ⟨w3.heap.size, 3, none⟩) jB (.slice a5 (p + (m.cells.length - q)) c5)) (S' := fun b => w.heap.size ≤ b) (fun b h _ => by have h' : W4.heap.size + 1 ≤ b := (by simpa using h); omega);have hone := zFL (l := { l with cells := l.cells.take p ++ m.cells.drop q }) hI6 hC6 jB;have hC7 := zEe b3 o3 d.length c3 _ 0 1 d { l with cells := l.cells.take p ++ m.cells.drop q } i (j + 1) w.heap.size _ hD6 hone jB qC qC hlen;rw [show ((j + 1 : Nat) : Int) = (j : Int) + 1 by omega] at hC7;simp only [World.size_setCell] at hC7;have HC7 := zA hC7;clear hC7 hone hD6 hI6 hC6 hK6 hK
   with_reducible refine HC7.out.mono ?_
   rintro e w7 ⟨v7, rfl, hv7, hb7⟩;go_wp2_with fail;go_ret2;unfold DocSaid;rw [HR.out];exact ⟨_, rfl, hv7, ((((H1.out.trans (hx51.mono hs1)).setCell jB _).alloc jB _)).trans hb7⟩
end Go.Proofs.YtjgeadoncanheaaGreatDoor
