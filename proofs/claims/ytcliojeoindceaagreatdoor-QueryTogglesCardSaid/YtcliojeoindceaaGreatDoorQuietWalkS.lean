/- A state as an argument of a law. -/
import Derived.Test.YtcliojeoindceaaGreatDoorDocDeleteS
import Derived.Test.YtcliojeoindceaaGreatDoorDocPartS
import Derived.Test.YtcliojeoindceaaGreatDoorRefLongS
import Derived.Test.YtcliojeoindceaaGreatDoorLineLiftS
set_option linter.unusedVariables false
set_option linter.unusedSimpArgs false
set_option maxHeartbeats 8000000
namespace Go.Proofs.YtcliojeoindceaaGreatDoor
open Go.ChangeShapes Go.WideShapes Go.ChangeAt Go.RowKit
open Go.Proofs.Qw Go.Deep
open _root_.Go.Proofs.Tryz renaming prog → zV
section
variable {H : Type} {enc : TypeId × Value → H} {w : World} {base : Nat} {held : Bool}
def InI (x : Int) : Prop := -9223372036854775808 ≤ x ∧ x ≤ 9223372036854775807
set_option maxRecDepth 100000 in
theorem open_ps {n : Nat} {sp : Nat → Bool} {cs : List Value} {y : DataW H × List MemPlace} (h : DataW.trod enc zV w base sp held n 24 cs = some y) : ∃ x : Ps, cs = [.int .i64 x.line, .int .i64 x.col] := by
 obtain ⟨xs, m, _, _, hl, hxs, hf⟩ := DataW.trod_struct Tryz.underlying24 h
 have h0 := hf 0 _ rfl
 have h1 := hf 1 _ rfl
 rw [show Tryz.prog.cellsOf 24 = 2 by kernel_rfl] at hl
 match cs, hl with
 | [a, b], _ =>
  match xs, hxs with
  | [x0, x1], _ =>
   obtain ⟨q, e0, _, _⟩ := DataW.trod_int Tryz.underlying3 h0
   obtain ⟨r, e1, _, _⟩ := DataW.trod_int Tryz.underlying3 h1
   have e0 : [a] = [Value.int .i64 q] := e0
   have e1 : [b] = [Value.int .i64 r] := e1
   cases e0
   cases e1
   exact ⟨⟨q, r⟩, rfl⟩
set_option maxRecDepth 100000 in
theorem open_docL {n : Nat} {cs : List Value} {y : DataW H × List MemPlace} (h : DataW.trod enc zV w base (fun _ => true) held n 22 cs = some y) (hw : ∀ n ∈ y.1.weights zV 22, n ≤ reachBytes) :
  ∃ (v : Value) (x : Doc), cs = [v] ∧ LinsR w (fun _ => True) v x ∧ Sane x := by
 obtain ⟨v', xs, e, hs, hx⟩ := open_row (t0 := 60) (k := 4) (R := rdLin false) (LinD zV 60) Tryz.underlying22 (by kernel_rfl) (by decide) h (fun n cs y h => open_lin h)
 refine ⟨v', xs, e, hs, fun l hl => ?_⟩
 obtain ⟨i, hi⟩ := List.getElem?_of_mem hl
 rcases hx with ⟨_, rfl⟩ | ⟨el, spr, hd, _, hel⟩
 ·cases hl
 ·obtain ⟨dd, g1, g2⟩ := hel i l hi
  rw [hd] at hw
  exact g2 fun n hn => hw n (by
   rw [DataW.weights, Tryz.underlying22]
   exact List.mem_cons_of_mem _ (List.mem_append_left _ (weightsAll_mem hn (List.mem_of_getElem? g1))))
set_option maxRecDepth 100000 in
theorem open_state {v : Value} {d : DataW H} {ps : List MemPlace} (hv : ∃ cs, v = .agg cs ∧ cs.size = Tryz.prog.cellsOf 26) (h : DataW.Trod enc zV w base (fun _ => true) held 26 v d ps) (hw : ∀ n ∈ d.weights zV 26, n ≤ reachBytes) :
  ∃ (u : Value) (s : St), v = stV u s ∧ LinsR w (fun _ => True) u s.lines ∧ Sane s.lines ∧ InI s.on ∧ InI s.off := by
 obtain ⟨cs, rfl, hsz⟩ := hv
 obtain ⟨fuel, hf⟩ := h
 obtain ⟨xs, m, _, hd, hl, hxs, hff⟩ := DataW.trod_struct Tryz.underlying26 hf
 have h0 := hff 0 _ rfl
 have h1 := hff 1 _ rfl
 have h2 := hff 2 _ rfl
 have h3 := hff 3 _ rfl
 have h4 := hff 4 _ rfl
 rw [show Tryz.prog.cellsOf 26 = 7 by kernel_rfl] at hsz
 obtain ⟨l⟩ := cs
 match l, hsz with
 | [a, b, c, p, e, f, g], _ =>
  match xs, hxs with
  | [x0, x1, x2, x3, x4], _ =>
   have hd : d = .agg [x0.1, x1.1, x2.1, x3.1, x4.1] := (Prod.ext_iff.1 hd).1
   obtain ⟨u, ls, e0, hls, hsn⟩ := open_docL h0 (fun n hn => hw n (by
    rw [hd]
    simp only [DataW.weights, Tryz.underlying26]
    simp [DataW.weightsEach, hn]))
   obtain ⟨pa, e1⟩ := open_ps h1
   obtain ⟨pf, e2⟩ := open_ps h2
   obtain ⟨q, e3, _, wq⟩ := DataW.trod_int Tryz.underlying3 h3
   obtain ⟨r, e4, _, wr⟩ := DataW.trod_int Tryz.underlying3 h4
   have e0 : [a] = [u] := e0
   have e1 : [b, c] = [Value.int .i64 pa.line, Value.int .i64 pa.col] := e1
   have e2 : [p, e] = [Value.int .i64 pf.line, Value.int .i64 pf.col] := e2
   have e3 : [f] = [Value.int .i64 q] := e3
   have e4 : [g] = [Value.int .i64 r] := e4
   cases e0
   cases e1
   cases e2
   cases e3
   cases e4
   exact ⟨_, ⟨ls, pa, pf, q, r⟩, rfl, hls, hsn, bounds_i64 wq, bounds_i64 wr⟩
end
end Go.Proofs.YtcliojeoindceaaGreatDoor
namespace Go.Proofs.YtcliojeoindceaaGreatDoor
open Go.RowKit
open Go.Proofs.Qw
attribute [local go_sem] Oper.semAt_some
open _root_.Go.Lib renaming hid → zA
def Long26Said (d : Doc) (ts : List ByteArray) (w : World) (e : Ending) (w' : World) : Prop := ∃ r, e = .returned (.bool r) ∧ (r = false → Sml d ∧ ∀ t ∈ ts, t.size ≤ 10000) ∧ Below w.heap.size w w'
set_option maxRecDepth 100000 in
theorem long26_any (v : Value) (s : St) (ta : Option Addr) (ts : List ByteArray) (w : World) (S : Nat → Prop) (h : LinsR w S v s.lines) (sn : Sane s.lines) (hts : ts.length ≤ 10)
  (ht : ∀ i t, ts[i]? = some t → ∃ b o, ta = some ⟨b, o, none⟩ ∧ b < w.heap.size ∧ w.cell? ⟨b, o + i, none⟩ = some (.string t)) :
  Calls Tryz.prog 10 #[stV v s, .slice ta ts.length ts.length] w (Long26Said s.lines ts w) := by
 obtain ⟨W1, hW1, hB, hz, k0⟩ := one_st w v s
 have HB : Hid (∀ W, Below W1.heap.size W1 W → W.heap[w.heap.size]? = some (.cells #[v, .int .i64 s.anc.line, .int .i64 s.anc.col, .int .i64 s.foc.line, .int .i64 s.foc.col, .int .i64 s.on, .int .i64 s.off] 26)) := zA fun W hW => heap_below hW k0
 have HC := zA fun W (hW : Below W1.heap.size W1 W) => refLong_any v s.lines W S ((h.below (rdLin_stable _) hB).below (rdLin_stable _) hW) sn
 have H1 := zA hB
 have hs1 := hB.size
 have HT : Hid (∀ W, Below w.heap.size w W → ∀ i t, ts[i]? = some t → ∃ b o, ta = some ⟨b, o, none⟩ ∧ W.cell? ⟨b, o + i, none⟩ = some (.string t)) := zA fun W hW i t hi => by
  obtain ⟨b, o, h1, h2, h3⟩ := ht i t hi
  exact ⟨b, o, h1, (hW.cell (p := ⟨b, o + i, none⟩) h2).trans h3⟩
 obtain ⟨p0, f0⟩ := blk k0
 obtain ⟨va, vc, rfl⟩ := h.slice
 clear h sn k0 hB ht
 go_enter Tryz.func10, Tryz.ntmps10
 go_wp2_with fail
 go_loopw [5] (fun i wr => ∃ j : Nat, j ≤ ts.length ∧ i = .int .i64 j ∧ wr = W1 ∧ Hid (∀ t ∈ ts.take j, t.size ≤ 10000)) (fun i _ => ts.length - (intOf i).toNat)
 case atStart => exact ⟨0, by omega, rfl, rfl, zA (by simp)⟩
 case round =>
  obtain ⟨j, hj, rfl, rfl, HT0⟩ := hrel
  by_cases hlt : j < ts.length
  ·obtain ⟨t, hjt, _⟩ := getOf ts j hlt
   obtain ⟨b, o, rfl, hc⟩ := HT.out _ H1.out j t hjt
   have hlt' : (j : Int) < (ts.length : Int) := by omega
   have hj0 : (0 : Int) ≤ (j : Int) := Int.natCast_nonneg _
   have HJ := zA hjt
   by_cases hsz : 10000 < t.size
   ·have hsz' : (10000 : Int) < (t.size : Int) := by omega
    clear hsz hjt
    go_wp2_with fail
    go_ret
    exact ⟨true, rfl, (fun e => by cases e), H1.out⟩
   ·have hsz' : ¬ (10000 : Int) < (t.size : Int) := by omega
    have HSZ := zA hsz
    clear hsz hjt
    go_wp2_with fail
    go_roundw
    case rel => exact ⟨j + 1, by omega, by go_num, trivial, zA (fun x hx => by
     rw [take_some HJ.out] at hx
     rcases List.mem_append.1 hx with hx | hx
     ·exact HT0.out x hx
     ·simp at hx; subst hx; have := HSZ.out; omega)⟩
    case measure => simp [intOf]; omega
  ·obtain rfl : j = ts.length := by omega
   go_wp2_with (go_at_call 33; refine (HC.out _ (Below.refl _ _)).mono ?_; rintro e w1 ⟨r, rfl, hr, hb⟩)
   go_ret
   exact ⟨r, rfl, fun e => ⟨hr e, by have := HT0.out; rwa [List.take_length] at this⟩, H1.out.trans (hb.mono hs1)⟩
end Go.Proofs.YtcliojeoindceaaGreatDoor
namespace Go.Proofs.YtcliojeoindceaaGreatDoor
open Go.RowKit
open Go.Proofs.Qw
structure QWk (P : Program) (ops : Array Oper) (C : World → Prop) (Q : Act → Prop) (rest : List Oper) (a : Act) : Prop where
 out : wpQuiet P ops C Q rest a
theorem QWk.want {P : Program} {ops : Array Oper} {C : World → Prop} {Q : Act → Prop} {a : Act} {o : Oper} {rest : List Oper} (hw : Region.wanted o (yielded ops a.tmps) = true) (h : ∀ K : Act → Prop, (∀ a, QWk P ops C Q rest a → K a) → o.quiet P a C K) : QWk P ops C Q (o :: rest) a :=
 ⟨BigFrame.wpQuiet_want hw fun K hK => h K fun a ha => hK a ha.out⟩
theorem QWk.skip {P : Program} {ops : Array Oper} {C : World → Prop} {Q : Act → Prop} {a : Act} {o : Oper} {rest : List Oper} (hw : Region.wanted o (yielded ops a.tmps) = false) (h : QWk P ops C Q rest (a.put o.dst undef)) : QWk P ops C Q (o :: rest) a :=
 ⟨BigFrame.wpQuiet_skip hw h.out⟩
end Go.Proofs.YtcliojeoindceaaGreatDoor
