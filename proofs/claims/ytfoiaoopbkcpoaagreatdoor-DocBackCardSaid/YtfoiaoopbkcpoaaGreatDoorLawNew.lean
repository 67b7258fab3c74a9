/- A new line of some cells, as lines. -/
import Derived.Test.YtfoiaoopbkcpoaaGreatDoorIs
namespace Go.Proofs.YtfoiaoopbkcpoaaGreatDoor
open Go.RowKit
open Go.Proofs.Qw
/-- A new line of some cells, as lines. -/
theorem lins_new {W : World} {S : Nat → Prop} {b : Value} {l : List Cel} (hC : CelsR false W S b l) : LinsR (W.alloc (.cells #[.int .i64 0, .slice none 0 0, .int .i64 0, b] 55)) (fun _ => True) (.slice (some ⟨W.heap.size, 0, none⟩) 1 1) [⟨0, [], 0, l⟩] := by
  have hk : Below W.heap.size W (W.alloc (.cells #[.int .i64 0, .slice none 0 0, .int .i64 0, b] 55)) := (Below.refl _ _).alloc (Nat.le_refl _) _
  refine ⟨_, 1, rfl, by simp, by decide, .inr ⟨W.heap.size, 0, rfl, trivial, by simp, (fun h => by cases h), fun i x hx => ?_⟩⟩
  match i, hx with
  | 0, hx =>
    cases hx
    exact ⟨_, rfl, ⟨.slice none 0 0, b, rfl, SliceR.nil _ _ _ _ _ _, SliceR.stable (rdOf_stable _) hC (.all hk) (fun _ _ _ => trivial)⟩, fun j u hu => by
      rw [cell_of_heap (heap_new _ _ rfl), Nat.zero_mul, Nat.zero_add]
      simpa using hu⟩
end Go.Proofs.YtfoiaoopbkcpoaaGreatDoor
