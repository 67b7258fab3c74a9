/- A document as an argument of a law; the witness' world; what is owed behind a call. -/
import Derived.Test.YtfoiaoopbkcpoaaGreatDoorCards
import Derived.Test.YtfoiaoopbkcpoaaGreatDoorTie
import Derived.Test.YtfoiaoopbkcpoaaGreatDoorBase
import Derived.ProofKit
import Derived.OpenShut
import Derived.Deep.DeepHandedRow
import Derived.Lib.LaidTab
import Derived.Test.YtfoiaoopbkcpoaaGreatDoorRefLong
import Derived.Lib.SmallJoins
import Derived.Test.YtfoiaoopbkcpoaaGreatDoorAttrWalk
import Derived.Lib.LaidU8T
import Derived.Carry
namespace Go.Proofs.YtfoiaoopbkcpoaaGreatDoor
open Go.ChangeShapes Go.WideShapes Go.ChangeAt Go.RowKit
/-- What is owed behind a call that has only made memory. -/
theorem post_below {H : Type} {enc : TypeId × Value → H} {P : Program} {f : Func} {s : ChangeSpec} {apart fresh handsOn : Bool} {W W' : World} {args : Array Value} {v : Value} {ds gs : List (DataW H)} {before pa pv : List MemPlace}
    (hW : DataW.Whole enc P f.params.toList s.vars apart W args.toList ds gs before)
    (hres : ∀ (b : Nat) (sp : Nat → Bool) (hd : Bool), DataW.TrodAll enc P W' b sp hd f.resultTypes.toList (v.resultList f.resultTypes.size) (s.fn H (ds ++ gs)).results [])
    (hargs : ∀ sp : Nat → Bool, (∀ p ∈ before, sp p.block = true) → DataW.TrodAll enc P W' 0 sp true f.params.toList args.toList (s.fn H (ds ++ gs)).args pa)
    (hvars : ∀ sp : Nat → Bool, (∀ p ∈ before, sp p.block = true) → DataW.TrodVars enc P W' sp s.vars (s.fn H (ds ++ gs)).vars pv)
    (hb : Below W.heap.size W W') : s.post enc P f apart fresh handsOn false W args v W' := by
  have hold : ∀ p ∈ before, (fun b => decide (b < W.heap.size)) p.block = true := fun p hp => by simpa using hW.lt p hp
  exact ⟨ds, gs, before, [], pa, pv, hW, hres _ _ _, hargs _ hold, hvars _ hold, hb.frame _, fun h => by cases h⟩
theorem own : ownKnob Tryz.prog.godebug = none := by kernel_rfl
/-- The numbers that a laid table holds, row by row. -/
def numOf : DataW Unit → List Value
  | .lit (.int k n) => [.int k n]
  | .agg l => l.flatMap fun
    | .lit (.int k n) => [.int k n]
    | .agg m => m.flatMap fun
      | .lit (.int k n) => [.int k n]
      | _ => []
    | _ => []
  | _ => []
def putAt (w : World) (g : Nat) (cs : List Value) : World := { w with heap := w.heap.modify g fun
      | .cells _ t frozen => .cells cs.toArray t frozen
      | o => o }
noncomputable def laidWorld (os : Os) : World :=
  putAt (putAt (World.holding Tryz.prog os ⟨#[], #[], []⟩) 0 (numOf Rows.laid_unicode_utf8_first)) 1 (numOf Rows.laid_unicode_utf8_acceptRanges)
end Go.Proofs.YtfoiaoopbkcpoaaGreatDoor
namespace Go.Proofs.Qw
open Go.RowKit Go.Proofs.YtfoiaoopbkcpoaaGreatDoor Go.Deep

section
variable {H : Type} {enc : TypeId × Value → H} {P : Program} {w : World} {base : Nat} {held : Bool}
/-- A slice that was read: each element as its own reading says. -/
theorem open_row {α : Type} [Inhabited α] {t e t0 : TypeId} {k fuel : Nat} {R : Rd α} {cs : List Value} {x : DataW H × List MemPlace} (Q : DataW H → α → Prop) (ht : P.underlying t = some (.slice e)) (hk : P.cellsOf e = k) (hk0 : 0 < k)
    (h : DataW.trod enc P w base (fun _ => true) held fuel t cs = some x)
    (hR : ∀ n cs y, DataW.trod enc P w base (fun _ => true) held n e cs = some y → ∃ x, R w (fun _ => True) cs x ∧ Q y.1 x) :
    ∃ (v : Value) (xs : List α), cs = [v] ∧ SliceR t0 k R false w (fun _ => True) v xs ∧ ((x.1 = .nil ∧ xs = []) ∨ ∃ (elems spare : List (DataW H)), x.1 = .slice elems spare ∧ elems.length = xs.length ∧ ∀ (i : Nat) (a : α), xs[i]? = some a → ∃ d, elems[i]? = some d ∧ Q d a) := by
  rcases open_slice ht h with ⟨rfl, rfl⟩ | ⟨a, len, cap, m, n, D, Pl, rfl, hb, hl, hm, hmm, rfl, hx⟩
  · exact ⟨_, [], rfl, SliceR.nil _ _ _ _ _ _, .inl ⟨rfl, rfl⟩⟩
  simp only [if_pos] at hmm
  subst hmm
  have hx2 : ∀ i, i < len → ∃ y : α, ∃ cs', (w.cells? base (a.add (i * P.cellsOf e)) (P.cellsOf e) = some cs' ∧ R w (fun _ => True) cs' y) ∧ Q (D i) y := fun i hi => by
    obtain ⟨cs', h1, h2⟩ := hx i (by omega)
    obtain ⟨y, g1, g2⟩ := hR _ _ _ h2
    exact ⟨y, cs', ⟨h1, g1⟩, g2⟩
  obtain ⟨Y, hY⟩ := choose_lt hx2
  refine ⟨_, (List.range len).map Y, rfl, ?_, .inr ⟨_, _, rfl, by simp, fun i y hi => ?_⟩⟩
  · by_cases h0 : len = 0
    · subst h0
      exact ⟨some a, m, rfl, by simp, hm, .inl ⟨rfl, fun h => by cases h⟩⟩
    obtain ⟨c0, ⟨g1, _⟩, _⟩ := hY 0 (by omega)
    have gs := World.cells?_some g1
    obtain ⟨b, off, spot⟩ := a
    have hc0 : c0.length = k := by rw [gs.2.1, hk]
    have g3 := gs.2.2 0 (by omega)
    have hspot : spot = none := by
      rw [List.getElem?_eq_getElem (by omega)] at g3
      simpa [Addr.add] using World.cell?_spot g3
    subst hspot
    have hlt : b < w.heap.size := by
      have := World.cells?_block g1 (by omega)
      simpa [Addr.add] using this
    refine ⟨_, m, by simp, by simp; omega, hm, .inr ⟨b, off, rfl, trivial, hlt, (fun h => by cases h), fun i y hi => ?_⟩⟩
    have hil : i < len := by have := (List.getElem?_eq_some_iff.1 hi).1; simpa using this
    have hy : y = Y i := by simp [hil] at hi; exact hi.symm
    subst hy
    obtain ⟨cs', ⟨q1, q2⟩, _⟩ := hY i hil
    have qs := World.cells?_some q1
    refine ⟨cs', by rw [qs.2.1, hk], q2, fun j u hu => ?_⟩
    have hj := (List.getElem?_eq_some_iff.1 hu).1
    have := qs.2.2 j (by rw [← qs.2.1]; exact hj)
    rw [hu, hk, WideShapes.add_plain, WideShapes.add_plain] at this
    rwa [Nat.add_assoc] at this ⊢
  · have hil : i < len := by have := (List.getElem?_eq_some_iff.1 hi).1; simpa using this
    have hy : y = Y i := by simp [hil] at hi; exact hi.symm
    subst hy
    obtain ⟨cs', _, q⟩ := hY i hil
    exact ⟨D i, by simp [hil], q⟩
theorem weightsAll_mem {e : TypeId} {d : DataW H} {n : Nat} (hn : n ∈ d.weights P e) : ∀ {l : List (DataW H)}, d ∈ l → n ∈ DataW.weightsAll P e l
  | x :: r, h => by
    rw [DataW.weightsAll, List.mem_append]
    rcases List.mem_cons.1 h with rfl | h
    · exact .inl hn
    · exact .inr (weightsAll_mem hn h)
end

section
variable {H : Type} {enc : TypeId × Value → H} {w : World} {base : Nat} {held : Bool} {sp : Nat → Bool}
theorem str_back (s : ByteArray) : (⟨s.data.toList.toArray⟩ : ByteArray) = s := by simp
/-- What the reading of a character says. -/
def CelD (d : DataW H) (c : Cel) : Prop := d = .agg [.lit (.int .i32 c.r), .lit (.int .i64 c.bits), .lit (.string c.href)]
set_option maxRecDepth 100000 in
theorem open_cel {n : Nat} {cs : List Value} {y : DataW H × List MemPlace} (h : DataW.trod enc Tryz.prog w base sp held n 58 cs = some y) : ∃ c : Cel, rdOf encCel w (fun _ => True) cs c ∧ CelD y.1 c := by
  obtain ⟨xs, m, _, rfl, hl, hxs, hf⟩ := DataW.trod_struct Tryz.underlying58 h
  have h0 := hf 0 _ rfl
  have h1 := hf 1 _ rfl
  have h2 := hf 2 _ rfl
  rw [show Tryz.prog.cellsOf 58 = 3 by kernel_rfl] at hl
  match cs, hl with
  | [a, b, c], _ =>
    match xs, hxs with
    | [x0, x1, x2], _ =>
      obtain ⟨r, e0, rfl, _⟩ := DataW.trod_int Tryz.underlying21 h0
      obtain ⟨bt, e1, rfl, _⟩ := DataW.trod_int Tryz.underlying3 h1
      obtain ⟨s, e2, rfl, _⟩ := DataW.trod_string Tryz.underlying9 h2
      have e0 : [a] = [Value.int .i32 r] := e0
      have e1 : [b] = [Value.int .i64 bt] := e1
      have e2 : [c] = [Value.string s] := e2
      cases e0
      cases e1
      cases e2
      exact ⟨⟨r, bt, s.data.toList⟩, by show _ = encCel _; unfold encCel; rw [str_back], rfl⟩
/-- What the reading of a line says. -/
def LinD (P : Program) (t : TypeId) (d : DataW H) (l : Lin) : Prop := (∀ n ∈ d.weights P t, n ≤ reachBytes) → l.lists.length ≤ 70368744177664 ∧ l.cells.length ≤ 70368744177664 ∧ ∀ c ∈ l.cells, c.href.length ≤ 281474976710656
set_option maxRecDepth 100000 in
theorem open_lin {n : Nat} {cs : List Value} {y : DataW H × List MemPlace} (h : DataW.trod enc Tryz.prog w base (fun _ => true) held n 55 cs = some y) : ∃ l : Lin, rdLin false w (fun _ => True) cs l ∧ LinD Tryz.prog 55 y.1 l := by
  obtain ⟨xs, m, _, rfl, hl, hxs, hf⟩ := DataW.trod_struct Tryz.underlying55 h
  have h0 := hf 0 _ rfl
  have h1 := hf 1 _ rfl
  have h2 := hf 2 _ rfl
  have h3 := hf 3 _ rfl
  rw [show Tryz.prog.cellsOf 55 = 4 by kernel_rfl] at hl
  match cs, hl with
  | [a, b, c, d], _ =>
    match xs, hxs with
    | [x0, x1, x2, x3], _ =>
      obtain ⟨q, e0, rfl, _⟩ := DataW.trod_int Tryz.underlying3 h0
      obtain ⟨k, e2, rfl, _⟩ := DataW.trod_int Tryz.underlying3 h2
      obtain ⟨lv, ls, e1, hls, hlw⟩ := open_row (t0 := 3) (k := 1) (R := rdOf encInt) (fun _ _ => True) Tryz.underlying53 (by kernel_rfl) Nat.one_pos h1 (fun n cs y h => by
        obtain ⟨z, rfl, _, _⟩ := DataW.trod_int Tryz.underlying3 h
        exact ⟨z, rfl, trivial⟩)
      obtain ⟨cv, cc, e3, hcs, hcw⟩ := open_row (t0 := 58) (k := 3) (R := rdOf encCel) CelD Tryz.underlying46 (by kernel_rfl) (by decide) h3 (fun n cs y h => open_cel h)
      have e0 : [a] = [Value.int .i64 q] := e0
      have e1 : [b] = [lv] := e1
      have e2 : [c] = [Value.int .i64 k] := e2
      have e3 : [d] = [cv] := e3
      cases e0
      cases e1
      cases e2
      cases e3
      refine ⟨⟨q, ls, k, cc⟩, ⟨_, _, rfl, hls, hcs⟩, fun hw => ?_⟩
      have hw1 : ∀ n ∈ x1.1.weights Tryz.prog 53, n ≤ reachBytes := fun n hn => hw n (by
        simp only [List.map_cons, List.map_nil, DataW.weights, Tryz.underlying55, DataW.weightsEach, List.mem_append]
        simp [hn])
      have hw3 : ∀ n ∈ x3.1.weights Tryz.prog 46, n ≤ reachBytes := fun n hn => hw n (by
        simp only [List.map_cons, List.map_nil, DataW.weights, Tryz.underlying55, DataW.weightsEach, List.mem_append]
        simp [hn])
      clear hw
      refine ⟨?_, ?_, ?_⟩
      · rcases hlw with ⟨_, rfl⟩ | ⟨el, spr, hd, hl, _⟩
        · simp
        · rw [hd] at hw1
          have := hw1 ((el.length + spr.length) * Tryz.prog.bytesOf 3) (by rw [DataW.weights, Tryz.underlying53]; exact List.mem_cons_self)
          rw [show Tryz.prog.bytesOf 3 = 8 by kernel_rfl] at this
          unfold reachBytes at this
          show ls.length ≤ _
          omega
      · rcases hcw with ⟨_, rfl⟩ | ⟨el, spr, hd, hl, _⟩
        · simp
        · rw [hd] at hw3
          have := hw3 ((el.length + spr.length) * Tryz.prog.bytesOf 58) (by rw [DataW.weights, Tryz.underlying46]; exact List.mem_cons_self)
          rw [show Tryz.prog.bytesOf 58 = 32 by kernel_rfl] at this
          unfold reachBytes at this
          show cc.length ≤ _
          omega
      · intro c hc
        rcases hcw with ⟨_, rfl⟩ | ⟨el, spr, hd, hl, hel⟩
        · cases hc
        · rw [hd] at hw3
          obtain ⟨i, hi⟩ := List.getElem?_of_mem hc
          obtain ⟨dd, g1, g2⟩ := hel i c hi
          have := hw3 c.href.length (by
            rw [DataW.weights, Tryz.underlying46]
            refine List.mem_cons_of_mem _ (List.mem_append_left _ (weightsAll_mem (d := dd) ?_ (List.mem_of_getElem? g1)))
            rw [show dd = _ from g2]
            simp [DataW.weights, Tryz.underlying58, DataW.weightsEach])
          unfold reachBytes at this
          omega
set_option maxRecDepth 100000 in
/-- A document that was handed in. -/
theorem open_doc {v : Value} {d : DataW H} {ps : List MemPlace} (hv : ∃ a n c, v = .slice a n c) (h : DataW.Trod enc Tryz.prog w base (fun _ => true) held 22 v d ps) (hw : ∀ n ∈ d.weights Tryz.prog 22, n ≤ reachBytes) :
    ∃ x : Doc, LinsR w (fun _ => True) v x ∧ Sane x := by
  obtain ⟨fuel, hf⟩ := h
  obtain ⟨v', xs, e, hs, hx⟩ := open_row (t0 := 55) (k := 4) (R := rdLin false) (LinD Tryz.prog 55) Tryz.underlying22 (by kernel_rfl) (by decide) hf (fun n cs y h => open_lin h)
  refine ⟨xs, ?_, fun l hl => ?_⟩
  · have : v = v' := by
      obtain ⟨a, n, c, rfl⟩ := hv
      have e : [Value.slice a n c] = [v'] := e
      cases e
      rfl
    exact this ▸ hs
  · obtain ⟨i, hi⟩ := List.getElem?_of_mem hl
    rcases hx with ⟨_, rfl⟩ | ⟨el, spr, hd, _, hel⟩
    · cases hl
    · obtain ⟨dd, g1, g2⟩ := hel i l hi
      have hd : d = .slice el spr := hd
      subst hd
      exact g2 fun n hn => hw n (by
        rw [DataW.weights, Tryz.underlying22]
        exact List.mem_cons_of_mem _ (List.mem_append_left _ (weightsAll_mem hn (List.mem_of_getElem? g1))))
end
end Go.Proofs.Qw
namespace Go.Proofs.YtfoiaoopbkcpoaaGreatDoor
open Go.ChangeShapes Go.WideShapes Go.ChangeAt Go.RowKit
open Go.Proofs.Qw
/-- The numbers of the tables' types here. -/
def u8Ren : Shelf.Ren := { f := fun x => x, t := fun n => if n = 5 then 5 else if n = 119 then 144 else if n = 138 then 146 else 147, g := fun n => if n = 3 then 0 else 1 }
theorem u8First : (Rows.laid_unicode_utf8_first : DataW Unit) = Go.Lib.firstData := by kernel_rfl
theorem u8Accept : (Rows.laid_unicode_utf8_acceptRanges : DataW Unit) = Go.Lib.acceptData := by kernel_rfl
theorem tabs_of {W : World} (hL : laidMetH Tryz.prog [("unicode/utf8.acceptRanges", Rows.laid_unicode_utf8_acceptRanges), ("unicode/utf8.first", Rows.laid_unicode_utf8_first)] W) : Lib.Utf8Tabs 0 1 W :=
  utf8Tabs_of_readsT (ρ := u8Ren) ⟨by kernel_rfl, by kernel_rfl, by kernel_rfl, by kernel_rfl⟩ ⟨by kernel_rfl, by kernel_rfl, by kernel_rfl, by kernel_rfl, by kernel_rfl, by kernel_rfl, by kernel_rfl⟩
    (u8First ▸ Lib.laidMet.reads hL (.tail _ (.head _))) (u8Accept ▸ Lib.laidMet.reads hL (.head _))
/-- What is owed behind a call that has only made memory: the arguments read again through places that there were. -/
theorem post_old {H : Type} {enc : TypeId × Value → H} {P : Program} {f : Func} {s : ChangeSpec} {apart fresh handsOn : Bool} {W W' : World} {args : Array Value} {v : Value} {ds gs : List (DataW H)} {before pa pv : List MemPlace}
    (hW : DataW.Whole enc P f.params.toList s.vars apart W args.toList ds gs before)
    (hres : ∀ (b : Nat) (sp : Nat → Bool) (hd : Bool), DataW.TrodAll enc P W' b sp hd f.resultTypes.toList (v.resultList f.resultTypes.size) (s.fn H (ds ++ gs)).results [])
    (hargs : DataW.TrodAll enc P W' 0 (fun b => decide (b < W.heap.size)) true f.params.toList args.toList (s.fn H (ds ++ gs)).args pa)
    (hvars : ∀ sp : Nat → Bool, (∀ p ∈ before, sp p.block = true) → DataW.TrodVars enc P W' sp s.vars (s.fn H (ds ++ gs)).vars pv)
    (hb : Below W.heap.size W W') : s.post enc P f apart fresh handsOn false W args v W' :=
  ⟨ds, gs, before, [], pa, pv, hW, hres _ _ _, hargs, hvars _ (fun p hp => by simpa using hW.lt p hp), hb.frame _, fun h => by cases h⟩
theorem laidOut : laidOutB Tryz.prog = true := by kernel_rfl
end Go.Proofs.YtfoiaoopbkcpoaaGreatDoor
