/- Places and rows of cells as arguments of a law. -/
import Derived.Test.YtfoiaoopbkcpoaaGreatDoorLaid
namespace Go.Proofs.YtfoiaoopbkcpoaaGreatDoor
open Go.ChangeShapes Go.WideShapes Go.ChangeAt Go.RowKit
open Go.Proofs.Qw Go.Deep
section
variable {H : Type} {enc : TypeId × Value → H} {w : World} {base : Nat} {held : Bool} {sp : Nat → Bool}
set_option maxRecDepth 100000 in
theorem open_pos {v : Value} {d : DataW H} {ps : List MemPlace} (hv : ∃ cs, v = .agg cs ∧ cs.size = Tryz.prog.cellsOf 24) (h : DataW.Trod enc Tryz.prog w base sp held 24 v d ps) : ∃ x : Ps, v = posV x := by
  obtain ⟨cs, rfl, hsz⟩ := hv
  obtain ⟨fuel, hf⟩ := h
  obtain ⟨xs, m, _, _, hl, hxs, hff⟩ := DataW.trod_struct Tryz.underlying24 hf
  have h0 := hff 0 _ rfl
  have h1 := hff 1 _ rfl
  rw [show Tryz.prog.cellsOf 24 = 2 by kernel_rfl] at hsz
  obtain ⟨l⟩ := cs
  match l, hsz with
  | [a, b], _ =>
    match xs, hxs with
    | [x0, x1], _ =>
      obtain ⟨q, e0, _, _⟩ := DataW.trod_int Tryz.underlying3 h0
      obtain ⟨r, e1, _, _⟩ := DataW.trod_int Tryz.underlying3 h1
      have e0 : [a] = [Value.int .i64 q] := e0
      have e1 : [b] = [Value.int .i64 r] := e1
      cases e0
      cases e1
      exact ⟨⟨q, r⟩, rfl⟩
/-- How long a row of cells can be that was handed in. -/
def SaneC (l : List Cel) : Prop := l.length ≤ 70368744177664 ∧ ∀ c ∈ l, c.href.length ≤ 281474976710656
set_option maxRecDepth 100000 in
theorem open_cells {v : Value} {d : DataW H} {ps : List MemPlace} (hv : ∃ a n c, v = .slice a n c) (h : DataW.Trod enc Tryz.prog w base (fun _ => true) held 46 v d ps) (hw : ∀ n ∈ d.weights Tryz.prog 46, n ≤ reachBytes) :
    ∃ x : List Cel, CelsR false w (fun _ => True) v x ∧ SaneC x := by
  obtain ⟨fuel, hf⟩ := h
  obtain ⟨v', xs, e, hs, hx⟩ := open_row (t0 := 58) (k := 3) (R := rdOf encCel) CelD Tryz.underlying46 (by kernel_rfl) (by decide) hf (fun n cs y h => open_cel h)
  refine ⟨xs, ?_, ?_, fun c hc => ?_⟩
  · have : v = v' := by
      obtain ⟨a, n, c, rfl⟩ := hv
      have e : [Value.slice a n c] = [v'] := e
      cases e
      rfl
    exact this ▸ hs
  · rcases hx with ⟨_, rfl⟩ | ⟨el, spr, hd, hl, _⟩
    · simp
    · have hd : d = .slice el spr := hd
      rw [hd] at hw
      have := hw ((el.length + spr.length) * Tryz.prog.bytesOf 58) (by rw [DataW.weights, Tryz.underlying46]; exact List.mem_cons_self)
      rw [show Tryz.prog.bytesOf 58 = 32 by kernel_rfl] at this
      unfold reachBytes at this
      omega
  · rcases hx with ⟨_, rfl⟩ | ⟨el, spr, hd, hl, hel⟩
    · cases hc
    · have hd : d = .slice el spr := hd
      rw [hd] at hw
      obtain ⟨i, hi⟩ := List.getElem?_of_mem hc
      obtain ⟨dd, g1, g2⟩ := hel i c hi
      have := hw c.href.length (by
        rw [DataW.weights, Tryz.underlying46]
        refine List.mem_cons_of_mem _ (List.mem_append_left _ (weightsAll_mem (d := dd) ?_ (List.mem_of_getElem? g1)))
        rw [show dd = _ from g2]
        simp [DataW.weights, Tryz.underlying58, DataW.weightsEach])
      unfold reachBytes at this
      omega
end
end Go.Proofs.YtfoiaoopbkcpoaaGreatDoor
