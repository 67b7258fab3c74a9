/- The walks of slices.Concat at cells, slices.Replace at lines. -/
import Derived.Test.YtfoiaoopbkcpoaaGreatDoorBase
import Derived.Test.YtfoiaoopbkcpoaaGreatDoorOwn
import Derived.Deep.RegionHeld3
import Derived.Deep.DrawnRows
import Derived.Lib.AppendZeros
namespace Go.Proofs.YtfoiaoopbkcpoaaGreatDoor
open Go.RowKit
open Go.Proofs.Qw

theorem zeroCell : (Tryz.prog.info? 58).bind (·.zero) = some (.agg #[.int .i32 0, .int .i64 0, .string ⟨#[]⟩]) := by kernel_rfl

set_option maxRecDepth 100000 in
set_option maxHeartbeats 2000000 in
theorem growCell_any (m : Nat) (w : World) (hm : m ≤ 10000000) :
    Calls Tryz.prog 120 #[.slice none 0 0, .int .i64 m] w fun e w' => ∃ v', e = .returned v' ∧ CelsR true w' (fun b => w.heap.size ≤ b) v' [] ∧ Below w.heap.size w w' := by
  go_enter Tryz.func120, Tryz.ntmps120
  rcases Nat.eq_zero_or_pos m with hz | hz
  · subst hz
    go_wp2_with fail
    go_ret
    exact ⟨_, rfl, SliceR.nil _ _ _ _ _ _, Below.refl _ _⟩
  · obtain ⟨cap, W2, hr, h2, hB2⟩ := append_zeros_R (ty := 46) (kq := .i64) (w := w) (n := w.heap.size) rowCell Tryz.underlying3 zeroCell eltCell (SliceR.nil _ _ _ _ _ _) (Nat.le_refl _) (fun _ => rfl) (x0 := ⟨0, 0, []⟩) hz (by omega) (by simp; omega)
    have HR := Lib.hid hr
    have h3 := SliceR.take h2 (i := 0) (Nat.zero_le _)
    have H3 := Lib.hid h3
    have HB := Lib.hid hB2
    clear hr h2 hB2 h3
    go_wp2_with (at_builtin; refine Lib.wpList_append_run _ rfl _ _ _ _ rfl _ _ rfl rfl _ _ HR.out ?_)
    go_ret
    exact ⟨_, rfl, H3.out, HB.out⟩

/-- How many cells some rows have. -/
def lens (xss : List (List Cel)) : Nat := (xss.map List.length).sum
theorem lens_step {xss : List (List Cel)} {k : Nat} {xs : List Cel} (h : xss[k]? = some xs) : lens (xss.take (k + 1)) = lens (xss.take k) + xs.length := by
  unfold lens
  rw [take_some h]
  simp
theorem lens_le (xss : List (List Cel)) (k : Nat) : lens (xss.take k) ≤ lens xss := by
  conv => rhs; rw [← List.take_append_drop k xss]
  unfold lens
  rw [List.map_append, List.sum_append]
  omega
theorem lens_flat (xss : List (List Cel)) : xss.flatten.length = lens xss := by unfold lens; rw [List.length_flatten]
theorem flat_step {xss : List (List Cel)} {k : Nat} {xs : List Cel} (h : xss[k]? = some xs) : (xss.take (k + 1)).flatten = (xss.take k).flatten ++ xs := by
  rw [take_some h, List.flatten_append]
  simp

set_option maxRecDepth 100000 in
set_option maxHeartbeats 4000000 in
theorem concatCell_any (g m : Nat) (cs : Array Value) (xss : List (List Cel)) (w : World) (S : Nat → Prop) (hg : w.heap[g]? = some (.cells cs 46)) (hx : ∀ (k : Nat) xs, xss[k]? = some xs → ∃ v, cs[k]? = some v ∧ CelsR false w S v xs)
    (hl : lens xss ≤ 4000000) (hm : xss.length ≤ 1000000) (hmm : m = xss.length) :
    Calls Tryz.prog 91 #[.slice (some ⟨g, 0, none⟩) m m] w fun e w' => ∃ v', e = .returned v' ∧ CelsR true w' (fun b => w.heap.size ≤ b) v' xss.flatten ∧ Below w.heap.size w w' := by
  subst hmm
  have hgz := (Array.getElem?_eq_some_iff.1 hg).1
  have HG := Lib.hid hg
  have HX := Lib.hid hx
  have HC : Hid (∀ W, Below w.heap.size w W → Calls Tryz.prog 120 #[.slice none 0 0, .int .i64 (lens xss : Nat)] W fun e w' => ∃ v', e = .returned v' ∧ CelsR true w' (fun b => W.heap.size ≤ b) v' [] ∧ Below W.heap.size W w') := Lib.hid fun W _ => growCell_any (lens xss) W (by omega)
  clear hg hx
  go_enter Tryz.func91, Tryz.ntmps91
  go_wp2_with fail
  go_loopw [3, 5, 11] (fun n _ i wr => ∃ k : Nat, k ≤ xss.length ∧ i = .int .i64 k ∧ n = .int .i64 (lens (xss.take k)) ∧ wr = w) (fun _ _ i _ => xss.length - (intOf i).toNat)
  case atStart => exact ⟨0, Nat.zero_le _, rfl, rfl, rfl⟩
  case round =>
    obtain ⟨k, hk, rfl, rfl, rfl⟩ := hrel
    obtain ⟨wo, rfl⟩ : ∃ wo : World, wo = wr := ⟨_, rfl⟩
    by_cases hlt : k < xss.length
    · obtain ⟨xs, hxs, _⟩ := getOf xss k hlt
      obtain ⟨v, hv, hR⟩ := HX.out k xs hxs
      obtain ⟨sa, sc, rfl⟩ := hR.slice
      have c0 : wo.cell? ⟨g, k, none⟩ = some (.slice sa xs.length sc) := by rw [cell_of_heap HG.out]; exact hv
      have e1 := lens_step hxs
      have e2 := lens_le xss (k + 1)
      have HE := Lib.hid e1
      have hle : lens (xss.take k) + xs.length ≤ 4000000 := by omega
      have i0 : (0 : Int) ≤ (k : Int) := Int.natCast_nonneg _
      have i1 : (k : Int) < (xss.length : Int) := by omega
      clear hxs hv hR e1 e2
      go_wp2_with fail
      go_roundw
      case rel => exact ⟨k + 1, hlt, by go_num, by rw [HE.out]; go_num, by first | rfl | trivial⟩
      case measure => simp [intOf]; omega
    · obtain rfl : k = xss.length := by omega
      have HT : Hid (xss.take xss.length = xss) := Lib.hid (List.take_length ..)
      rw [HT.out]
      go_wp2_with (go_at_call 120; refine (HC.out _ (Below.refl _ _)).mono ?_; rintro e w2 ⟨v2, rfl, hv2, hb2⟩)
      have HV2 := Lib.hid hv2
      clear hv2
      go_loopw [6, 8, 27] (fun out _ i wi => ∃ k : Nat, k ≤ xss.length ∧ i = .int .i64 k ∧ CelsR true wi (fun b => wo.heap.size ≤ b) out (xss.take k).flatten ∧ Below wo.heap.size wo wi) (fun _ _ i _ => xss.length - (intOf i).toNat)
      case atStart => exact ⟨0, Nat.zero_le _, rfl, HV2.out, hb2⟩
      case round =>
        clear hb2 HV2
        obtain ⟨q, hq, rfl, hO, hb⟩ := hrel
        have HO := Lib.hid hO
        clear hO
        by_cases hlt2 : q < xss.length
        · obtain ⟨xs, hxs, _⟩ := getOf xss q hlt2
          obtain ⟨v, hv, hR⟩ := HX.out q xs hxs
          have HS := Lib.hid (SliceR.src_flat rowCell eltCell (SliceR.below (rdOf_stable _) hR hb))
          obtain ⟨sa, sc, rfl⟩ := hR.slice
          have c0 : wr.cell? ⟨g, q, none⟩ = some (.slice sa xs.length sc) := by rw [hb.cell (p := ⟨g, q, none⟩) hgz, cell_of_heap HG.out]; exact hv
          have HT := Lib.hid (flat_step hxs)
          have hfl : (xss.take q).flatten.length + xs.length ≤ 100000000 := by
            have h1 := lens_step hxs
            have h2 := lens_le xss (q + 1)
            rw [lens_flat]
            omega
          have HF := Lib.hid hfl
          have i0 : (0 : Int) ≤ (q : Int) := Int.natCast_nonneg _
          have i1 : (q : Int) < (xss.length : Int) := by omega
          have hbs := hb.size
          clear hxs hv hR hfl
          go_wp2_with (at_builtin; refine wpList_append_R _ rfl _ _ 46 46 rfl rowCell eltCell wo.heap.size _ _ (xs := (xss.take q).flatten) (ys := xs) (news := xs.flatMap encCel) rfl rfl HO.out hbs HS.out (flatCell _ _ _) HF.out ?_; intro v' w1 hR hB _ _; rw [← HT.out] at hR; have HR := Lib.hid hR; have HB := Lib.hid hB; clear hR hB)
          go_roundw
          case rel => exact ⟨q + 1, hlt2, by go_num, HR.out, hb.trans HB.out⟩
          case measure => simp [intOf]; omega
        · obtain rfl : q = xss.length := by omega
          have HB := Lib.hid hb
          clear hb
          go_wp2_with fail
          go_ret
          exact ⟨_, rfl, Eq.mp (congrArg (fun x => CelsR true wr (fun b => wo.heap.size ≤ b) _ x.flatten) HT.out) HO.out, HB.out⟩
end Go.Proofs.YtfoiaoopbkcpoaaGreatDoor
namespace Go.Proofs.Qw
open Go.RowKit
/-- A builtin whose run is known. -/
theorem wpList_copy_run {P : Program} (w : World) {ops : Array Oper} {rest : List Oper} {o : Oper} {a : Act} {Q : Exit → Act → World → Prop} (hgd : o.guard = none) (s x : Operand) (t tn : TypeId)
    (ho : o.op = .call { callee := .builtin .copy, args := #[s, x], argTypes := #[t, tn] }) (vs vx : Value) (hs : a.eval s = vs) (hx : a.eval x = vx)
    (v' : Value) (w' : World) (hr : (Builtin.copy_ #[t, tn] o.type #[vs, vx]).run P w = .ok v' w') (h : wpList P ops Q rest (a.put o.dst v') w') : wpList P ops Q (o :: rest) a w := by
  refine wpList_plain hgd fun K hK => ?_
  unfold Oper.wp execOp
  simp only [ho, resolve, invoke, builtin, Sem.run_bind, Sem.run_pure, Result.andThen_ok, List.map_toArray, List.map_cons, List.map_nil, hs, hx, hr]
  exact hK _ _ h
theorem wpList_clear_run {P : Program} (w : World) {ops : Array Oper} {rest : List Oper} {o : Oper} {a : Act} {Q : Exit → Act → World → Prop} (hgd : o.guard = none) (s : Operand) (t : TypeId)
    (ho : o.op = .call { callee := .builtin .clear, args := #[s], argTypes := #[t] }) (vs : Value) (hs : a.eval s = vs)
    (v' : Value) (w' : World) (hr : (Builtin.clear_ #[t] o.type #[vs]).run P w = .ok v' w') (h : wpList P ops Q rest (a.put o.dst v') w') : wpList P ops Q (o :: rest) a w := by
  refine wpList_plain hgd fun K hK => ?_
  unfold Oper.wp execOp
  simp only [ho, resolve, invoke, builtin, Sem.run_bind, Sem.run_pure, Result.andThen_ok, List.map_toArray, List.map_cons, List.map_nil, hs, hr]
  exact hK _ _ h
theorem step_copy_run {P : Program} {w : World} {ops : Array Oper} {o : Oper} {a : Act} {K : Act → World → Prop} {Q : Exit → Act → World → Prop} {E : Prop} (hgd : o.guard = none) (s x : Operand) (t tn : TypeId)
    (ho : o.op = .call { callee := .builtin .copy, args := #[s, x], argTypes := #[t, tn] }) (vs vx : Value) (hs : a.eval s = vs) (hx : a.eval x = vx)
    (v' : Value) (w' : World) (hr : (Builtin.copy_ #[t, tn] o.type #[vs, vx]).run P w = .ok v' w') (h : K (a.put o.dst v') w') : if Region.wanted o (yielded ops a.tmps) = true then Oper.wp P o a w K Q else E := by
  have hw : Region.wanted o (yielded ops a.tmps) = true := by simp [Region.wanted, hgd]
  rw [if_pos hw]
  unfold Oper.wp execOp
  simp only [ho, resolve, invoke, builtin, Sem.run_bind, Sem.run_pure, Result.andThen_ok, List.map_toArray, List.map_cons, List.map_nil, hs, hx, hr]
  exact h
theorem setAt {α : Type} {xs : List α} {i : Nat} {e : α} (h : i < xs.length) : xs.take i ++ [e] ++ xs.drop (i + 1) = xs.set i e := by
  rw [List.set_eq_take_append_cons_drop, if_pos h, List.append_assoc]; rfl
theorem drop_setAt {α : Type} {xs : List α} {i j : Nat} {e : α} (h : i < xs.length) (hij : i < j) : ((xs.take i ++ [e] ++ xs.drop (i + 1)).drop j).take (xs.length - j) = xs.drop j := by
  rw [setAt h]
  apply List.ext_getElem?
  intro q
  rw [List.getElem?_take, List.getElem?_drop, List.getElem?_drop, List.getElem?_set_ne (by omega)]
  split
  · rfl
  · rw [List.getElem?_eq_none (by omega)]
theorem take_three {α : Type} {xs ys zs : List α} {i : Nat} {e : α} (h : i < xs.length) {m : Nat} (hm : m = i + 1 + ys.length) : ((xs.take i ++ [e] ++ xs.drop (i + 1)).take (i + 1) ++ ys ++ zs).take m = xs.take i ++ [e] ++ ys := by
  have e1 : (xs.take i ++ [e] ++ xs.drop (i + 1)).take (i + 1) = xs.take i ++ [e] := by
    rw [List.take_left' (by simp; omega)]
  rw [e1, List.take_left' (by simp; omega)]
end Go.Proofs.Qw
namespace Go.Proofs.YtfoiaoopbkcpoaaGreatDoor
open Go.RowKit
open Go.Proofs.Qw
attribute [local go_sem ↓] Go.wp_at_zero Go.wp_at_succ

set_option maxRecDepth 100000 in
set_option maxHeartbeats 4000000 in
theorem replace_mid (b o ln c vb vo vc : Nat) (xs : List Lin) (e : Lin) (i j n : Nat) (w : World) (h : DocR true w (fun b => n ≤ b) (.slice (some ⟨b, o, none⟩) ln c) xs) (hv : DocR true w (fun b => n ≤ b) (.slice (some ⟨vb, vo, none⟩) 1 vc) [e]) (_hne : vb ≠ b)
    (hij : i < j) (hj : j < xs.length) (hlen : xs.length ≤ 1000000) :
    Calls Tryz.prog 92 #[.slice (some ⟨b, o, none⟩) ln c, .int .i64 i, .int .i64 j, .slice (some ⟨vb, vo, none⟩) 1 vc] w fun e' w' => ∃ v', e' = .returned v' ∧ DocR true w' (fun b => n ≤ b) v' (xs.take i ++ [e] ++ xs.drop j) ∧ Below n w w' := by
  obtain ⟨rfl, hc, hm⟩ := SliceR.len h
  have hcc : c ≤ 9223372036854775807 := hm
  have H := Lib.hid (And.intro h hv)
  have q1 : ¬ c = i := by omega
  have q2 : ¬ c = i + 1 := by omega
  have q3 : ¬ c = j := by omega
  have t1 : ((i : Int) == (j : Int)) = false := beq_eq_false_iff_ne.2 (by omega)
  have t2 : ((j : Int) == (xs.length : Int)) = false := beq_eq_false_iff_ne.2 (by omega)
  clear h hv
  go_enter Tryz.func92, Tryz.ntmps92
  go_wp2_with fail
  go_quiet (fail)
  have hk1 : Below w.heap.size w (w.drewN nq) := drewN_below (Below.refl _ _)
  obtain ⟨W1, hW1⟩ : ∃ W1, w.drewN nq = W1 := ⟨_, rfl⟩
  rw [hW1] at hk1 ⊢
  have h1 := SliceR.below (rdLin_stable true) H.out.1 hk1
  have hv1 := SliceR.below (rdLin_stable true) H.out.2 hk1
  obtain ⟨news, hs1, hn1⟩ := SliceR.src rowLine eltLine.pos eltLine.ones hv1
  obtain ⟨W2, hr1, h2, hB2, hz2, ho2⟩ := copy_R (ty := 3) rowLine eltLine.tag (by decide) h1 (p := i) (q := i + 1 + (xs.length - j)) (ys := [e]) (by omega) (by show i + 1 ≤ _; omega) (by show i + 1 ≤ _; omega) (by omega) hs1 hn1
  have hbn : n ≤ b := by
    obtain ⟨b', o', cs, e, hb, _⟩ := SliceR.cellAt H.out.1 (i := 0) (by omega)
    cases e
    exact hb
  have h2d : DocR true W2.drew (fun b => n ≤ b) (.slice (some ⟨b, o, none⟩) xs.length c) (xs.take i ++ [e] ++ xs.drop (i + 1)) := SliceR.below (rdLin_stable true) h2 (Below.refl _ _).drew
  have hl2 : (xs.take i ++ [e] ++ xs.drop (i + 1)).length = xs.length := by simp; omega
  have hp3 := h2d.part (i := j) (j := xs.length) (m := c) (by omega) (by omega) hc (Nat.le_refl _)
  have e3 := drop_setAt (e := e) (show i < xs.length by omega) hij
  rw [e3] at hp3
  simp only [sliced, if_neg q3, Option.map_some, Addr.add_lit] at hp3
  obtain ⟨news2, hs2, hn2⟩ := SliceR.src rowLine eltLine.pos eltLine.ones hp3
  obtain ⟨W3, hr2, h3, hB3, hz3, ho3⟩ := copy_R (ty := 3) rowLine eltLine.tag (by decide) h2d (p := i + 1) (q := i + 1 + (xs.length - j)) (ys := xs.drop j) (by omega) (by simp; omega) (by simp) (by omega) hs2 hn2
  rw [show i + 1 + (xs.length - j) - (i + 1) = xs.length - j by omega] at hr2
  have HR1 := Lib.hid hr1
  have HR2 := Lib.hid hr2
  clear hr1 hr2
  go_wp2_with (refine wpList_copy_run _ rfl _ _ _ _ rfl _ _ rfl rfl _ _ HR1.out ?_)
  have w1 : IntKind.i64.wrap ((i : Int) + 1) = (i : Int) + 1 := IntWalk.i64_in _ (by omega)
  have w2 : (0 : Int) ≤ (i : Int) + 1 := by omega
  have w3 : ((i : Int) + 1).toNat = i + 1 := by omega
  have w4 : (i : Int) + 1 ≤ (i : Int) + 1 + ((xs.length - j : Nat) : Int) := by omega
  have w5 : (0 : Int) ≤ (j : Int) := by omega
  have w6 : (j : Int) ≤ (xs.length : Int) := by omega
  go_region_held3 (fun _ => True) (trivial) ((refine step_copy_run (by rfl) _ _ _ _ (by rfl) _ _ (by rfl) (by rfl) _ _ HR2.out ?_))
  clear w1
  have HW3 : Hid (Below n w W3) := Lib.hid ((((hk1.mono (by have := H.out.1; exact Nat.le_trans hbn (by
    obtain ⟨b', o', cs, e, hb, hg, _⟩ := SliceR.cellAt H.out.1 (i := 0) (by omega)
    cases e
    exact Nat.le_of_lt (Array.getElem?_eq_some_iff.1 hg).1))).trans (hB2 n hbn)).drew).trans (hB3 n hbn))
  have hl3 : i + 1 + (xs.drop j).length = i + 1 + (xs.length - j) := by simp
  rw [hl3] at h3
  have HT3 := Lib.hid (take_three (xs := xs) (ys := xs.drop j) (zs := (xs.take i ++ [e] ++ xs.drop (i + 1)).drop (i + 1 + (xs.length - j))) (e := e) (show i < xs.length by omega) (m := i + 1 + (xs.length - j)) (by simp))
  have HH3 := Lib.hid h3
  clear h1 hv1 h2 h2d hp3 h3 hB2 hB3 hz2 hz3 ho2 ho3 hs1 hn1 hs2 hn2 hl2 e3 hl3
  by_cases hT : i + 1 < j
  · obtain ⟨W4, hr4, h4, hB4, _, _⟩ := clear_R (ty := 0) rowLine (z := .agg #[.int .i64 0, .slice none 0 0, .int .i64 0, .slice none 0 0]) (by kernel_rfl) (by intro u hu; simp [Value.cells] at hu; rcases hu with rfl | rfl | rfl | rfl <;> rfl) eltLine.tag (by decide) (x0 := ⟨0, [], 0, []⟩) ⟨_, _, rfl, SliceR.nil _ _ _ _ _ _, SliceR.nil _ _ _ _ _ _⟩ HH3.out (p := i + 1 + (xs.length - j)) (by omega)
    have q4 : ¬ c = i + 1 + (xs.length - j) := by omega
    have w7 : (i : Int) + 1 + ((xs.length - j : Nat) : Int) ≤ (xs.length : Int) := by omega
    have HR4 := Lib.hid hr4
    have H4 := Lib.hid (And.intro h4 (hB4 n hbn))
    clear hr4 h4 hB4
    go_wp2_with (refine wpList_clear_run _ rfl _ _ rfl _ rfl _ _ HR4.out ?_)
    go_ret
    refine ⟨_, rfl, ?_, HW3.out.trans H4.out.2⟩
    have h9 := SliceR.take H4.out.1 (i := i + 1 + (xs.length - j)) (by have := (SliceR.len HH3.out).1; rw [List.length_append, List.length_replicate, List.length_take]; omega)
    rw [List.take_left' (by have := (SliceR.len HH3.out).1; rw [List.length_take]; omega), HT3.out] at h9
    exact h9
  · have hT2 : i + 1 + (xs.length - j) = xs.length := by omega
    have w7 : (i : Int) + 1 + ((xs.length - j : Nat) : Int) ≤ (xs.length : Int) := by omega
    have hn0 : xs.length - (i + 1 + (xs.length - j)) = 0 := by omega
    have h9 := SliceR.take HH3.out (i := i + 1 + (xs.length - j)) (by have := (SliceR.len HH3.out).1; omega)
    rw [HT3.out] at h9
    have H9 := Lib.hid h9
    have HR4 : Hid (∀ a, (Builtin.clear_ #[22] 0 #[.slice (some a) (xs.length - (i + 1 + (xs.length - j))) (c - (i + 1 + (xs.length - j)))]).run Tryz.prog W3 = .ok (.tuple #[]) W3) := Lib.hid fun a => by rw [hn0]; exact run_clear_zero Tryz.underlying22 a _ W3
    clear h9 hn0 hT2
    rcases Decidable.em (c = i + 1 + (xs.length - j)) with rfl | q4
    all_goals
      go_wp2_with (refine wpList_clear_run _ rfl _ _ rfl _ rfl _ _ (HR4.out _) ?_)
      go_ret
      exact ⟨_, rfl, H9.out, HW3.out⟩
end Go.Proofs.YtfoiaoopbkcpoaaGreatDoor
namespace Go.Proofs.YtfoiaoopbkcpoaaGreatDoor
open Go.RowKit
open Go.Proofs.Qw
attribute [local go_sem ↓] Go.wp_at_zero Go.wp_at_succ

set_option maxRecDepth 100000 in
set_option maxHeartbeats 4000000 in
theorem replace_end (b o ln c vb vo vc : Nat) (xs : List Lin) (e : Lin) (i n : Nat) (w : World) (h : DocR true w (fun b => n ≤ b) (.slice (some ⟨b, o, none⟩) ln c) xs) (hv : DocR true w (fun b => n ≤ b) (.slice (some ⟨vb, vo, none⟩) 1 vc) [e]) (_hne : vb ≠ b)
    (hij : i < xs.length) (hlen : xs.length ≤ 1000000) :
    Calls Tryz.prog 92 #[.slice (some ⟨b, o, none⟩) ln c, .int .i64 i, .int .i64 xs.length, .slice (some ⟨vb, vo, none⟩) 1 vc] w fun e' w' => ∃ v', e' = .returned v' ∧ DocR true w' (fun b => n ≤ b) v' (xs.take i ++ [e]) ∧ Below n w w' := by
  obtain ⟨rfl, hc, hm⟩ := SliceR.len h
  have hcc : c ≤ 9223372036854775807 := hm
  have hbn : n ≤ b := by
    obtain ⟨b', o', cs, e, hb, _⟩ := SliceR.cellAt h (i := 0) (by omega)
    cases e
    exact hb
  obtain ⟨news, hs1, hn1⟩ := SliceR.src rowLine eltLine.pos eltLine.ones hv
  obtain ⟨W2, hr1, h2, hB2, hz2, ho2⟩ := append_in_R (ty := 22) rowLine eltLine.tag (by decide) h (p := i) (ys := [e]) (by show i + 1 ≤ _; omega) (by omega) hs1 hn1
  have HR1 := Lib.hid hr1
  have H2 := Lib.hid (And.intro h2 (hB2 n hbn))
  have t1 : ((i : Int) == (xs.length : Int)) = false := beq_eq_false_iff_ne.2 (by omega)
  have q1 : ¬ c = i := by omega
  have e1 : (xs.take i ++ [e] ++ xs.drop (i + [e].length)).take (i + 1) = xs.take i ++ [e] := List.take_left' (by simp; omega)
  have HE := Lib.hid e1
  clear h hv hs1 hn1 hr1 h2 hB2 hz2 ho2 e1
  go_enter Tryz.func92, Tryz.ntmps92
  by_cases hT : i + 1 < xs.length
  · obtain ⟨W4, hr4, h4, hB4, _, _⟩ := clear_R (ty := 0) rowLine (z := .agg #[.int .i64 0, .slice none 0 0, .int .i64 0, .slice none 0 0]) (by kernel_rfl) (by intro u hu; simp [Value.cells] at hu; rcases hu with rfl | rfl | rfl | rfl <;> rfl) eltLine.tag (by decide) (x0 := ⟨0, [], 0, []⟩) ⟨_, _, rfl, SliceR.nil _ _ _ _ _ _, SliceR.nil _ _ _ _ _ _⟩ H2.out.1 (p := i + 1) (by omega)
    have q4 : ¬ c = i + 1 := by omega
    have HR4 := Lib.hid hr4
    have H4 := Lib.hid (And.intro h4 (hB4 n hbn))
    clear hr4 h4 hB4
    go_wp2_with (first | (at_builtin; refine Lib.wpList_append_run _ rfl _ _ _ _ rfl _ _ rfl rfl _ _ HR1.out ?_) | (refine wpList_clear_run _ rfl _ _ rfl _ rfl _ _ HR4.out ?_))
    go_ret
    refine ⟨_, rfl, ?_, H2.out.2.trans H4.out.2⟩
    have h9 := SliceR.take H4.out.1 (i := i + 1) (by rw [List.length_append, List.length_replicate, List.length_take]; have := (SliceR.len H2.out.1).1; omega)
    rw [List.take_left' (by rw [List.length_take]; have := (SliceR.len H2.out.1).1; omega), HE.out] at h9
    exact h9
  · have t3 : ¬ ((i : Int) + 1 < (xs.length : Int)) := by omega
    go_wp2_with (at_builtin; refine Lib.wpList_append_run _ rfl _ _ _ _ rfl _ _ rfl rfl _ _ HR1.out ?_)
    go_ret
    refine ⟨_, rfl, ?_, H2.out.2⟩
    have h9 := SliceR.take H2.out.1 (i := i + 1) (by have := (SliceR.len H2.out.1).1; omega)
    rw [HE.out] at h9
    exact h9
end Go.Proofs.YtfoiaoopbkcpoaaGreatDoor
namespace Go.Proofs.YtfoiaoopbkcpoaaGreatDoor
open Go.RowKit
open Go.Proofs.Qw
attribute [local go_sem ↓] Go.wp_at_zero Go.wp_at_succ

set_option maxRecDepth 100000 in
set_option maxHeartbeats 4000000 in
theorem replace_two_end (b o ln c vb vo vc : Nat) (xs : List Lin) (e1 e2 : Lin) (i n : Nat) (w : World) (h : DocR true w (fun b => n ≤ b) (.slice (some ⟨b, o, none⟩) ln c) xs) (hv : DocR true w (fun b => n ≤ b) (.slice (some ⟨vb, vo, none⟩) 2 vc) [e1, e2])
    (hn : n ≤ w.heap.size) (hij : i + 1 = xs.length) (hlen : xs.length ≤ 1000000) :
    Calls Tryz.prog 92 #[.slice (some ⟨b, o, none⟩) ln c, .int .i64 i, .int .i64 xs.length, .slice (some ⟨vb, vo, none⟩) 2 vc] w fun e' w' => ∃ v', e' = .returned v' ∧ DocR true w' (fun b => n ≤ b) v' (xs.take i ++ [e1, e2]) ∧ Below n w w' ∧ ∀ k : Nat, k < w.heap.size → k ≠ b → w'.heap[k]? = w.heap[k]? := by
  obtain ⟨rfl, hc, hm⟩ := SliceR.len h
  have hcc : c ≤ 9223372036854775807 := hm
  obtain ⟨news, hs1, hn1⟩ := SliceR.src rowLine eltLine.pos eltLine.ones hv
  have ht := SliceR.take h (i := i) (by omega)
  obtain ⟨v', W2, hr1, h2, hB2, hgr, _⟩ := append_R (ty := 22) rowLine eltLine ht hn hs1 hn1 (by rw [List.length_take]; show _ + 2 ≤ _; omega)
  obtain ⟨a2, n2, c2, rfl, hn2⟩ : ∃ a2 n2 c2, v' = .slice a2 n2 c2 ∧ n2 = i + 2 := by
    obtain ⟨a2, c2, e⟩ := h2.slice
    exact ⟨a2, _, c2, e, by rw [List.length_append, List.length_take]; show _ + 2 = _; omega⟩
  have HR1 := Lib.hid hr1
  have hfr : ∀ k : Nat, k < w.heap.size → k ≠ b → W2.heap[k]? = w.heap[k]? := fun k hk hne => hgr.block k hk (fun e => hne (by cases e; rfl))
  have H2 := Lib.hid (And.intro h2 (And.intro hB2 hfr))
  have t1 : ((i : Int) == (xs.length : Int)) = false := beq_eq_false_iff_ne.2 (by omega)
  have t3 : ¬ ((n2 : Int) < (xs.length : Int)) := by omega
  have q1 : ¬ c = i := by omega
  clear h hv hs1 hn1 hr1 h2 hB2 ht hn2 hgr hfr
  go_enter Tryz.func92, Tryz.ntmps92
  go_wp2_with (at_builtin; refine Lib.wpList_append_run _ rfl _ _ _ _ rfl _ _ rfl rfl _ _ HR1.out ?_)
  go_ret
  exact ⟨_, rfl, H2.out.1, H2.out.2.1, H2.out.2.2⟩

theorem zeroLine : (Tryz.prog.info? 55).bind (·.zero) = some (.agg #[.int .i64 0, .slice none 0 0, .int .i64 0, .slice none 0 0]) := by kernel_rfl
theorem zeroLineR (w : World) (S : Nat → Prop) : rdLin true w S (Value.agg #[.int .i64 0, .slice none 0 0, .int .i64 0, .slice none 0 0]).cells.toList ⟨0, [], 0, []⟩ := ⟨_, _, rfl, SliceR.nil _ _ _ _ _ _, SliceR.nil _ _ _ _ _ _⟩

set_option maxRecDepth 100000 in
set_option maxHeartbeats 4000000 in
theorem replace_two_grow (b o ln c vb vo vc : Nat) (xs : List Lin) (e1 e2 : Lin) (i n : Nat) (w : World) (h : DocR true w (fun b => n ≤ b) (.slice (some ⟨b, o, none⟩) ln c) xs) (hv : DocR true w (fun b => n ≤ b) (.slice (some ⟨vb, vo, none⟩) 2 vc) [e1, e2])
    (hn : n ≤ w.heap.size) (hij : i + 1 < xs.length) (hlen : xs.length ≤ 1000000) (hcap : c < xs.length + 1) :
    Calls Tryz.prog 92 #[.slice (some ⟨b, o, none⟩) ln c, .int .i64 i, .int .i64 ((i + 1 : Nat) : Int), .slice (some ⟨vb, vo, none⟩) 2 vc] w fun e' w' => ∃ v', e' = .returned v' ∧ DocR true w' (fun b => n ≤ b) v' (xs.take i ++ [e1, e2] ++ xs.drop (i + 1)) ∧ Below n w w' ∧ ∀ k : Nat, k < w.heap.size → k ≠ b → w'.heap[k]? = w.heap[k]? := by
  obtain ⟨rfl, hc, hm⟩ := SliceR.len h
  have hcc : c ≤ 9223372036854775807 := hm
  have hcl : c = xs.length := by omega
  subst hcl
  have H := Lib.hid (And.intro h hv)
  have t1 : ((i : Int) == (i : Int) + 1) = false := beq_eq_false_iff_ne.2 (by omega)
  have t2 : ((i : Int) + 1 == (xs.length : Int)) = false := beq_eq_false_iff_ne.2 (by omega)
  have q1 : ¬ xs.length = i := by omega
  have q3 : ¬ xs.length = i + 1 := by omega
  have t5 : (xs.length : Int) < (i : Int) + 2 + ((xs.length - (i + 1) : Nat) : Int) := by omega
  clear h hv
  go_enter Tryz.func92, Tryz.ntmps92
  go_wp2_with fail
  go_quiet (fail)
  have hk1 : Below w.heap.size w (w.drewN nq) := drewN_below (Below.refl _ _)
  obtain ⟨W1, hW1⟩ : ∃ W1, w.drewN nq = W1 := ⟨_, rfl⟩
  rw [hW1] at hk1 ⊢
  have h1 := SliceR.below (rdLin_stable true) H.out.1 hk1
  have ht := SliceR.take h1 (i := i) (by omega)
  obtain ⟨cap, W2, hr1, h2, hB2⟩ := append_zeros_R (ty := 22) (kq := .i64) rowLine Tryz.underlying3 zeroLine eltLine ht (Nat.le_trans hn hk1.size) (fun w => zeroLineR w _) (m := xs.length + 1 - i) (by omega) (by omega) (by rw [List.length_take]; omega)
  have hln2 : i + (xs.length + 1 - i) = xs.length + 1 := by omega
  rw [hln2] at hr1 h2
  have hcap2 : xs.length + 1 ≤ cap := by
    have := h2.len
    omega
  have hbW : W1.heap.size ≠ b := by
    obtain ⟨b', o', cs, e, hb, hg, _⟩ := SliceR.cellAt h1 (i := 0) (by omega)
    cases e
    exact Nat.ne_of_gt (Array.getElem?_eq_some_iff.1 hg).1
  have hbV : W1.heap.size ≠ vb := by
    obtain ⟨b', o', cs, e, hb, hg, _⟩ := SliceR.cellAt (SliceR.below (rdLin_stable true) H.out.2 hk1) (i := 0) (by simp)
    cases e
    exact Nat.ne_of_gt (Array.getElem?_eq_some_iff.1 hg).1
  have hv2 := SliceR.below (rdLin_stable true) (SliceR.below (rdLin_stable true) H.out.2 hk1) hB2
  have hs2 := SliceR.below (rdLin_stable true) (SliceR.bounded (rdLin_stable true) h1) hB2
  have hn2 : n ≤ W1.heap.size := Nat.le_trans hn hk1.size
  obtain ⟨newsV, hsv, hnv⟩ := SliceR.src rowLine eltLine.pos eltLine.ones hv2
  have hl2 : (xs.take i ++ List.replicate (xs.length + 1 - i) (⟨0, [], 0, []⟩ : Lin)).length = xs.length + 1 := by rw [List.length_append, List.length_take, List.length_replicate]; omega
  obtain ⟨W3, hr3, h3, hB3, hz3, ho3⟩ := copy_R (ty := 3) rowLine eltLine.tag (by decide) h2 (p := i) (q := xs.length + 1) (ys := [e1, e2]) (by omega) (by rw [hl2]; show i + 2 ≤ _; omega) (by show i + 2 ≤ _; omega) (by omega) hsv hnv
  have hs3 := SliceR.stable (rdLin_stable true) hs2 (Keeps.only hz3 ho3 (by simp)) (fun d h _ => h.1)
  have hs3d := SliceR.below (rdLin_stable true) hs3 (Below.refl _ _).drew
  have h3d := SliceR.below (rdLin_stable true) h3 (Below.refl _ _).drew
  have hp3 := SliceR.part hs3d (i := i + 1) (j := xs.length) (m := xs.length) (by omega) (Nat.le_refl _) (Nat.le_refl _) (Nat.le_refl _)
  rw [List.take_of_length_le (by rw [List.length_drop]; omega)] at hp3
  simp only [sliced, if_neg q3, Option.map_some, Addr.add_lit] at hp3
  obtain ⟨newsS, hss, hns⟩ := SliceR.src rowLine eltLine.pos eltLine.ones hp3
  have hdl : (xs.drop (i + 1)).length = xs.length - (i + 1) := List.length_drop ..
  obtain ⟨W4, hr4, h4, hB4, hz4, ho4⟩ := copy_R (ty := 3) rowLine eltLine.tag (by decide) h3d (p := i + 2) (q := xs.length + 1) (ys := xs.drop (i + 1)) (by omega) (by have := (SliceR.len h3d).1; omega) (by omega) (by omega) hss hns
  simp only [Nat.zero_add] at hr3 hr4
  rw [show xs.length + 1 - (i + 2) = xs.length - (i + 1) by omega] at hr4
  have HR1 := Lib.hid hr1
  have HR3 := Lib.hid hr3
  have HR4 := Lib.hid hr4
  have hfr : ∀ k : Nat, k < w.heap.size → k ≠ b → W4.heap[k]? = w.heap[k]? := fun k hk _ => by
    have hk' : k < W1.heap.size := Nat.lt_of_lt_of_le hk hk1.size
    exact (ho4 k (Nat.ne_of_lt hk')).trans ((ho3 k (Nat.ne_of_lt hk')).trans ((hB2.block k hk').trans (hk1.block k hk)))
  have H4 := Lib.hid (And.intro h4 (And.intro ((((hk1.mono hn).trans (hB2.mono hn2)).trans (hB3 n hn2)).drew.trans (hB4 n hn2)) hfr))
  have q6 : ¬ cap = i := by omega
  have q7 : ¬ cap = i + 2 := by omega
  clear h1 ht h2 hB2 hv2 hs2 hsv hnv h3 hB3 hz3 ho3 hs3 hs3d h3d hp3 hss hns h4 hB4 hz4 ho4 hr1 hr3 hr4 hbW hbV hln2 hl2 hdl hfr
  go_wp2_with (first | (at_builtin; refine Lib.wpList_append_run _ rfl _ _ _ _ rfl _ _ rfl (int_eq (by omega)) _ _ HR1.out ?_) | (refine wpList_copy_run _ rfl _ _ _ _ rfl _ _ rfl rfl _ _ HR3.out ?_))
  have w1 : IntKind.i64.wrap ((i : Int) + 2) = (i : Int) + 2 := IntWalk.i64_in _ (by omega)
  have w2 : (0 : Int) ≤ (i : Int) + 2 := by omega
  have w3 : ((i : Int) + 2).toNat = i + 2 := by omega
  have w4 : (i : Int) + 2 ≤ (xs.length : Int) + 1 := by omega
  have w5 : (0 : Int) ≤ (i : Int) + 1 := by omega
  have w6 : (i : Int) + 1 ≤ (xs.length : Int) := by omega
  have w7 : ((i : Int) + 1).toNat = i + 1 := by omega
  go_region_held3 (fun _ => True) (trivial) ((refine step_copy_run (by rfl) _ _ _ _ (by rfl) _ _ (by rfl) (by rfl) _ _ HR4.out ?_))
  go_wp2_with fail
  go_ret
  refine ⟨_, rfl, ?_, H4.out.2.1, H4.out.2.2⟩
  have h9 := H4.out.1
  have e9 : ((xs.take i ++ List.replicate (xs.length + 1 - i) (⟨0, [], 0, []⟩ : Lin)).take i ++ [e1, e2] ++ (xs.take i ++ List.replicate (xs.length + 1 - i) (⟨0, [], 0, []⟩ : Lin)).drop (i + [e1, e2].length)).take (i + 2) ++ xs.drop (i + 1) ++ ((xs.take i ++ List.replicate (xs.length + 1 - i) (⟨0, [], 0, []⟩ : Lin)).take i ++ [e1, e2] ++ (xs.take i ++ List.replicate (xs.length + 1 - i) (⟨0, [], 0, []⟩ : Lin)).drop (i + [e1, e2].length)).drop (i + 2 + (xs.drop (i + 1)).length) = xs.take i ++ [e1, e2] ++ xs.drop (i + 1) := by
    have f1 : (xs.take i).length = i := by rw [List.length_take]; omega
    have f2 : (xs.take i ++ List.replicate (xs.length + 1 - i) (⟨0, [], 0, []⟩ : Lin)).take i = xs.take i := List.take_left' f1
    rw [f2]
    obtain ⟨R', hR'⟩ : ∃ R', (xs.take i ++ List.replicate (xs.length + 1 - i) (⟨0, [], 0, []⟩ : Lin)).drop (i + [e1, e2].length) = R' := ⟨_, rfl⟩
    have f3 : R'.length = xs.length + 1 - (i + 2) := by
      rw [← hR', List.length_drop, List.length_append, List.length_replicate, f1]
      simp only [List.length_cons, List.length_nil]
      omega
    rw [hR']
    have f4 : (xs.take i ++ [e1, e2] ++ R').drop (i + 2 + (xs.drop (i + 1)).length) = [] := List.drop_eq_nil_of_le (by
      rw [List.length_append, List.length_append, List.length_drop, f1, f3]
      simp only [List.length_cons, List.length_nil]
      omega)
    rw [f4, List.append_nil, List.take_left' (by rw [List.length_append, f1]; rfl)]
  rw [e9] at h9
  exact h9
end Go.Proofs.YtfoiaoopbkcpoaaGreatDoor
namespace Go.Proofs.Qw
open Go.RowKit Go.Proofs.YtfoiaoopbkcpoaaGreatDoor
theorem SliceR.avoid {α : Type} {s t : TypeId} {k : Nat} {enc : α → List Value} {w : World} {S : Nat → Prop} {v : Value} {xs : List α} (h : SliceR s k (rdOf enc) true w S v xs) {b : Nat} {cs : Array Value} (hb : w.heap[b]? = some (.cells cs t)) (hst : s ≠ t) : SliceR s k (rdOf enc) true w (fun d => S d ∧ d ≠ b) v xs := by
  obtain ⟨a, c, e, hc, hm, hx⟩ := h
  refine ⟨a, c, e, hc, hm, ?_⟩
  rcases hx with h1 | ⟨d, o, e, hd, hz, hf, he⟩
  · exact .inl h1
  · obtain ⟨cs2, g1, g2⟩ := hf rfl
    exact .inr ⟨d, o, e, ⟨hd, fun e2 => by subst e2; rw [hb] at g1; cases g1; exact hst rfl⟩, hz, hf, he⟩
theorem DocR.avoid {w : World} {S : Nat → Prop} {vb vo n c : Nat} {xs : List Lin} (h : DocR true w S (.slice (some ⟨vb, vo, none⟩) n c) xs) {b : Nat} {cs : Array Value} (hb : w.heap[b]? = some (.cells cs 55)) (hne : vb ≠ b) : DocR true w (fun d => S d ∧ d ≠ b) (.slice (some ⟨vb, vo, none⟩) n c) xs := by
  obtain ⟨a, c', e, hc, hm, hx⟩ := h
  refine ⟨a, c', e, hc, hm, ?_⟩
  rcases hx with h1 | ⟨d, o, e2, hd, hz, hf, he⟩
  · exact .inl h1
  · subst e2
    cases e
    refine .inr ⟨vb, vo, rfl, ⟨hd, hne⟩, hz, hf, fun i x hi => ?_⟩
    obtain ⟨vs, r1, ⟨p, q, r2, r3, r4⟩, r5⟩ := he i x hi
    exact ⟨vs, r1, ⟨p, q, r2, r3.avoid hb (by decide), r4.avoid hb (by decide)⟩, r5⟩
end Go.Proofs.Qw
namespace Go.Proofs.YtfoiaoopbkcpoaaGreatDoor
open Go.RowKit
open Go.Proofs.Qw
attribute [local go_sem ↓] Go.wp_at_zero Go.wp_at_succ

set_option maxRecDepth 100000 in
set_option maxHeartbeats 4000000 in
theorem replace_two_in (b o ln c vb vo vc : Nat) (xs : List Lin) (e1 e2 : Lin) (i n : Nat) (w : World) (h : DocR true w (fun b => n ≤ b) (.slice (some ⟨b, o, none⟩) ln c) xs) (hv : DocR true w (fun b => n ≤ b) (.slice (some ⟨vb, vo, none⟩) 2 vc) [e1, e2]) (hne : vb ≠ b)
    (hn : n ≤ w.heap.size) (hij : i + 1 < xs.length) (hlen : xs.length ≤ 1000000) (hcap : xs.length + 1 ≤ c) :
    Calls Tryz.prog 92 #[.slice (some ⟨b, o, none⟩) ln c, .int .i64 i, .int .i64 ((i + 1 : Nat) : Int), .slice (some ⟨vb, vo, none⟩) 2 vc] w fun e' w' => ∃ v', e' = .returned v' ∧ DocR true w' (fun b => n ≤ b) v' (xs.take i ++ [e1, e2] ++ xs.drop (i + 1)) ∧ Below n w w' ∧ ∀ k : Nat, k < w.heap.size → k ≠ b → w'.heap[k]? = w.heap[k]? := by
  obtain ⟨rfl, hc, hm⟩ := SliceR.len h
  have hcc : c ≤ 9223372036854775807 := hm
  have H := Lib.hid (And.intro h hv)
  have t1 : ((i : Int) == (i : Int) + 1) = false := beq_eq_false_iff_ne.2 (by omega)
  have t2 : ((i : Int) + 1 == (xs.length : Int)) = false := beq_eq_false_iff_ne.2 (by omega)
  have q1 : ¬ c = i := by omega
  have q3 : ¬ c = i + 1 := by omega
  have q4 : ¬ c = i + 2 := by omega
  have hbn : n ≤ b := by
    obtain ⟨b', o', cs, e, hb, _⟩ := SliceR.cellAt h (i := 0) (by omega)
    cases e
    exact hb
  clear h hv
  go_enter Tryz.func92, Tryz.ntmps92
  go_wp2_with fail
  go_quiet (fail)
  have hk1 : Below w.heap.size w (w.drewN nq) := drewN_below (Below.refl _ _)
  obtain ⟨W1, hW1⟩ : ∃ W1, w.drewN nq = W1 := ⟨_, rfl⟩
  rw [hW1] at hk1 ⊢
  have h1 := SliceR.below (rdLin_stable true) H.out.1 hk1
  have hv1 := SliceR.below (rdLin_stable true) H.out.2 hk1
  obtain ⟨b', o', cs, eb, _, hgb, hszb⟩ := SliceR.cellAt h1 (i := 0) (by omega)
  cases eb
  obtain ⟨vb', vo', csv, ev, _, hgv, hszv⟩ := SliceR.cellAt hv1 (i := 0) (by simp)
  cases ev
  have hov : ∀ la ca, (callFunc 122 #[.slice (some ⟨b, o + (i + 2) * 4, none⟩) la ca, .slice (some ⟨vb, vo, none⟩) 2 vc]).run Tryz.prog W1 = .ok (.value (.bool false)) W1 := fun la ca => by
    rw [run_callFunc_extern Tryz.func122 (by kernel_rfl) (by kernel_rfl) (by kernel_rfl) (e := Extern.SlicesOverlaps.overlaps #[22, 22] #[4]) (by kernel_rfl),
      Lib.run_overlaps_apart W1 22 4 55 Tryz.underlying22 4 (fun w => by obtain ⟨i0, z, h1, _, h2, _⟩ := rowLine.info; simp [sizeOf, typeInfo, h1, h2]) ⟨b, o + (i + 2) * 4, none⟩ ⟨vb, vo, none⟩ la ca 2 vc (fun e => hne e.symm) 55 55 cs.size csv.size
        (by simp [World.shape?, hgb]) (by simp [World.shape?, hgv]) (by omega) (frozen_of_heap hgb) (frozen_of_heap hgb)]
    rfl
  have h1d := SliceR.below (rdLin_stable true) h1 (Below.refl _ _).drew
  have hp := SliceR.part h1d (i := i + 1) (j := xs.length) (m := c) (by omega) (Nat.le_refl _) hc (Nat.le_refl _)
  rw [List.take_of_length_le (by rw [List.length_drop]; omega)] at hp
  simp only [sliced, if_neg q3, Option.map_some, Addr.add_lit] at hp
  obtain ⟨newsS, hss, hns⟩ := SliceR.src rowLine eltLine.pos eltLine.ones hp
  have hdl : ((xs.drop (i + 1)).map some).length = xs.length - (i + 1) := by rw [List.length_map, List.length_drop]
  have hx := SliceR.extend (SliceR.opt h1d) (m := xs.length + 1) (by omega) hcap
  rw [show xs.length + 1 - xs.length = 1 by omega] at hx
  have hzl : (xs.map some ++ List.replicate 1 (none : Option Lin)).length = xs.length + 1 := by simp
  obtain ⟨W2, hr2, h2, hB2, hz2, ho2⟩ := copy_R (ty := 3) rowLine (rdOpt_tagged eltLine.tag) (by decide) hx (p := i + 2) (q := xs.length + 1) (ys := (xs.drop (i + 1)).map some) hcap (by rw [hzl, hdl]; omega) (by rw [hdl]; omega) (by omega) (by rw [List.length_map]; exact hss) (NewsR.opt hns)
  have hva := SliceR.stable (rdLin_stable true) (SliceR.below (rdLin_stable true) (DocR.avoid hv1 hgb hne) (Below.refl _ _).drew) (Keeps.only (S := fun d => n ≤ d ∧ d ≠ b) hz2 ho2 (by simp)) (fun d h _ => h.1)
  obtain ⟨newsV, hsv, hnv⟩ := SliceR.src rowLine eltLine.pos eltLine.ones hva
  have hl2 := (SliceR.len h2).1
  obtain ⟨W3, hr3, h3, hB3, hz3, ho3⟩ := copy_R (ty := 3) rowLine (rdOpt_tagged eltLine.tag) (by decide) h2 (p := i) (q := xs.length + 1) (ys := [some e1, some e2]) hcap (by show i + 2 ≤ _; omega) (by show i + 2 ≤ _; omega) (by omega) hsv (NewsR.opt hnv)
  rw [show xs.length + 1 - (i + 2) = xs.length - (i + 1) by omega] at hr2
  rw [show xs.length + 1 - i = i + 2 + (xs.length - (i + 1)) - i by omega] at hr3
  have HR2 := Lib.hid hr2
  have HR3 := Lib.hid hr3
  have hfr : ∀ k : Nat, k < w.heap.size → k ≠ b → W3.heap[k]? = w.heap[k]? := fun k hk hne => (ho3 k hne).trans ((ho2 k hne).trans (hk1.block k hk))
  have H3 := Lib.hid (And.intro h3 (And.intro ((((hk1.mono hn).drew).trans (hB2 n hbn)).trans (hB3 n hbn)) hfr))
  have q9 : (i : Int) + 2 + ((xs.length - (i + 1) : Nat) : Int) ≤ (c : Int) := by omega
  clear h1 hv1 hgb hszb hgv hszv h1d hp hss hns hdl hx hzl hr2 h2 hB2 hz2 ho2 hva hsv hnv hl2 hr3 h3 hB3 hz3 ho3 hfr
  go_wp2_with fail
  have w1 : IntKind.i64.wrap ((i : Int) + 2) = (i : Int) + 2 := IntWalk.i64_in _ (by omega)
  have w2 : (0 : Int) ≤ (i : Int) + 2 := by omega
  have w3 : ((i : Int) + 2).toNat = i + 2 := by omega
  have w4 : (i : Int) + 2 ≤ (xs.length : Int) + 1 := by omega
  have w5 : (0 : Int) ≤ (i : Int) + 1 := by omega
  have w6 : (i : Int) + 1 ≤ (xs.length : Int) := by omega
  have w7 : ((i : Int) + 1).toNat = i + 1 := by omega
  have w8 : (i : Int) + 2 ≤ (i : Int) + 2 + ((xs.length - (i + 1) : Nat) : Int) := by omega
  go_region_held3 (fun _ => True) (trivial) ((refine step_copy_run (by rfl) _ _ _ _ (by rfl) _ _ (by rfl) (by rfl) _ _ HR2.out ?_))
  clear w1
  go_wp2_with (refine wpList_copy_run _ rfl _ _ _ _ rfl _ _ rfl rfl _ _ HR3.out ?_)
  go_ret
  have hT : i + 2 + (xs.length - (i + 1)) = xs.length + 1 := by omega
  have h9 := H3.out.1
  have e9 : ((xs.map some ++ List.replicate 1 (none : Option Lin)).take (i + 2) ++ (xs.drop (i + 1)).map some ++ (xs.map some ++ List.replicate 1 (none : Option Lin)).drop (i + 2 + ((xs.drop (i + 1)).map some).length)).take i ++ [some e1, some e2] ++
      ((xs.map some ++ List.replicate 1 (none : Option Lin)).take (i + 2) ++ (xs.drop (i + 1)).map some ++ (xs.map some ++ List.replicate 1 (none : Option Lin)).drop (i + 2 + ((xs.drop (i + 1)).map some).length)).drop (i + [some e1, some e2].length) = (xs.take i ++ [e1, e2] ++ xs.drop (i + 1)).map some := by
    have f0 : (xs.map some ++ List.replicate 1 (none : Option Lin)).drop (i + 2 + ((xs.drop (i + 1)).map some).length) = [] := List.drop_eq_nil_of_le (by simp; omega)
    have f1 : ((xs.map some ++ List.replicate 1 (none : Option Lin)).take (i + 2)).length = i + 2 := by simp; omega
    have f2 : ((xs.map some ++ List.replicate 1 (none : Option Lin)).take (i + 2)).take i = (xs.take i).map some := by
      rw [List.take_take, Nat.min_eq_left (by omega), List.take_append_of_le_length (by simp; omega), List.map_take]
    rw [f0, List.append_nil, List.take_append_of_le_length (by omega), f2, List.drop_left' (by rw [f1]; rfl)]
    simp
  rw [e9] at h9
  refine ⟨_, rfl, ?_, H3.out.2.1, H3.out.2.2⟩
  show SliceR _ _ _ _ _ _ (.slice (some ⟨b, o, none⟩) (i + 2 + (xs.length - (i + 1))) c) _
  rw [hT]
  exact SliceR.unopt h9

/-- One line in the place of some. -/
theorem replace_one (b o ln c vb vo vc : Nat) (xs : List Lin) (e : Lin) (i j n : Nat) (w : World) (h : DocR true w (fun b => n ≤ b) (.slice (some ⟨b, o, none⟩) ln c) xs) (hv : DocR true w (fun b => n ≤ b) (.slice (some ⟨vb, vo, none⟩) 1 vc) [e]) (hne : vb ≠ b)
    (hij : i < j) (hj : j ≤ xs.length) (hlen : xs.length ≤ 1000000) :
    Calls Tryz.prog 92 #[.slice (some ⟨b, o, none⟩) ln c, .int .i64 i, .int .i64 j, .slice (some ⟨vb, vo, none⟩) 1 vc] w fun e' w' => ∃ v', e' = .returned v' ∧ DocR true w' (fun b => n ≤ b) v' (xs.take i ++ [e] ++ xs.drop j) ∧ Below n w w' := by
  by_cases hl : j < xs.length
  · exact replace_mid b o ln c vb vo vc xs e i j n w h hv hne hij hl hlen
  · obtain rfl : j = xs.length := by omega
    have := replace_end b o ln c vb vo vc xs e i n w h hv hne hij hlen
    rw [List.drop_length, List.append_nil]
    exact this
/-- Two lines in the place of one. -/
theorem replace_two (b o ln c vb vo vc : Nat) (xs : List Lin) (e1 e2 : Lin) (i n : Nat) (w : World) (h : DocR true w (fun b => n ≤ b) (.slice (some ⟨b, o, none⟩) ln c) xs) (hv : DocR true w (fun b => n ≤ b) (.slice (some ⟨vb, vo, none⟩) 2 vc) [e1, e2]) (hne : vb ≠ b)
    (hn : n ≤ w.heap.size) (hij : i < xs.length) (hlen : xs.length ≤ 1000000) :
    Calls Tryz.prog 92 #[.slice (some ⟨b, o, none⟩) ln c, .int .i64 i, .int .i64 ((i + 1 : Nat) : Int), .slice (some ⟨vb, vo, none⟩) 2 vc] w fun e' w' => ∃ v', e' = .returned v' ∧ DocR true w' (fun b => n ≤ b) v' (xs.take i ++ [e1, e2] ++ xs.drop (i + 1)) ∧ Below n w w' ∧ ∀ k : Nat, k < w.heap.size → k ≠ b → w'.heap[k]? = w.heap[k]? := by
  by_cases hl : i + 1 < xs.length
  · by_cases hc : xs.length + 1 ≤ c
    · exact replace_two_in b o ln c vb vo vc xs e1 e2 i n w h hv hne hn hl hlen hc
    · exact replace_two_grow b o ln c vb vo vc xs e1 e2 i n w h hv hn hl hlen (by omega)
  · have he : i + 1 = xs.length := by omega
    have := replace_two_end b o ln c vb vo vc xs e1 e2 i n w h hv hn he hlen
    rw [he, List.drop_length, List.append_nil]
    exact this
end Go.Proofs.YtfoiaoopbkcpoaaGreatDoor
