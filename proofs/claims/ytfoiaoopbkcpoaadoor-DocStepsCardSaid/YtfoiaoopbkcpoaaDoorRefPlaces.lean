/- The walk of the reference's Places. -/
import Derived.Test.YtfoiaoopbkcpoaaDoorRefPlace
namespace Go.Proofs.Qw
/-- All places of a document, in order. -/
def placesFrom : Nat → Doc → List Ps
  | _, [] => []
  | i, l :: d => (List.range (l.cells.length + 1)).map (fun (k : Nat) => (⟨(i : Int), (k : Int)⟩ : Ps)) ++ placesFrom (i + 1) d
def placesD (d : Doc) : List Ps := placesFrom 0 d
theorem placesFrom_append : ∀ (x : Doc) (i : Nat) (y : Doc), placesFrom i (x ++ y) = placesFrom i x ++ placesFrom (i + x.length) y
  | [], i, y => by simp [placesFrom]
  | l :: x, i, y => by
    rw [List.cons_append, placesFrom, placesFrom, placesFrom_append x, List.append_assoc, List.length_cons, show i + 1 + x.length = i + (x.length + 1) by omega]
theorem placesD_step {d : Doc} {k : Nat} {l : Lin} (h : d[k]? = some l) : placesD (d.take (k + 1)) = placesD (d.take k) ++ (List.range (l.cells.length + 1)).map (fun (j : Nat) => (⟨(k : Int), (j : Int)⟩ : Ps)) := by
  have hk := (List.getElem?_eq_some_iff.1 h).1
  unfold placesD
  rw [List.take_add_one, h]
  show placesFrom 0 (d.take k ++ [l]) = _
  rw [placesFrom_append, List.length_take, Nat.min_eq_left (by omega), Nat.zero_add]
  simp [placesFrom]
theorem placesFrom_length : ∀ (d : Doc) (i : Nat), (placesFrom i d).length = sizeD d + d.length
  | [], _ => rfl
  | l :: d, i => by
    rw [placesFrom, List.length_append, placesFrom_length d, List.length_map, List.length_range]
    simp only [sizeD, List.map_cons, List.sum_cons, List.length_cons]
    omega
theorem placesD_length (d : Doc) : (placesD d).length = sizeD d + d.length := placesFrom_length d 0
end Go.Proofs.Qw
namespace Go.Proofs.YtfoiaoopbkcpoaaDoor
open Go.RowKit
open Go.Proofs.Qw

def encPos (p : Ps) : List Value := [.int .i64 p.line, .int .i64 p.col]
abbrev PlacesR := SliceR 29 2 (rdOf encPos)
theorem eltPos : Elt 29 2 (rdOf encPos) := elt_of _ (by decide) (fun _ => rfl) (fun x u hu => by simp [encPos] at hu; rcases hu with rfl | rfl <;> rfl)
theorem places_shape {own : Bool} {w : World} {S : Nat → Prop} {v : Value} {d : List Ps} (h : PlacesR own w S v d) :
    ∃ a c, v = .slice a d.length c ∧ d.length ≤ c ∧ c ≤ maxLen ∧ ∀ i l, d[i]? = some l → ∃ b o, a = some ⟨b, o, none⟩ ∧ b < w.heap.size ∧ w.cell? ⟨b, o + i * 2, none⟩ = some (.int .i64 l.line) ∧ w.cell? ⟨b, o + i * 2 + 1, none⟩ = some (.int .i64 l.col) := by
  obtain ⟨a, c, rfl, hc, hm, hx⟩ := h.shape
  refine ⟨a, c, rfl, hc, hm, fun i l hl => ?_⟩
  obtain ⟨b, o, vs, rfl, hz, _, _, e, he⟩ := hx i l hl
  cases e
  exact ⟨b, o, rfl, hz, he 0 _ rfl, he 1 _ rfl⟩
theorem ones2 (a b : Int) : ∀ u ∈ [Value.int .i64 a, .int .i64 b], u.oneCell' = true := by
  intro u hu
  simp at hu
  rcases hu with rfl | rfl <;> rfl
end Go.Proofs.YtfoiaoopbkcpoaaDoor
