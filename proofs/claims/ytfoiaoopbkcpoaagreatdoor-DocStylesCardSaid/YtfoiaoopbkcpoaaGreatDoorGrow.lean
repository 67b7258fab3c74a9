/- A drawn region whose operations read, and whose calls make new memory at most: one walk, in the order of the text. -/
import Derived.Test.YtfoiaoopbkcpoaaGreatDoorBase
namespace Go.Proofs.Qw
open Go.RowKit Go.Proofs.YtfoiaoopbkcpoaaGreatDoor
section
variable {P : Program} {ops : Array Oper} {C : World → Prop} {K : Act → Prop} {a : Act} {o : Oper}
/-- The class of the worlds that only grew. -/
abbrev Grew (n : Nat) (w : World) : World → Prop := fun W => Below n w W
theorem wp_region_grew {id : Nat} {Q : Exit → Act → World → Prop} {a : Act} {w : World} {l : List Oper} (n : Nat) (hm : P.follows .mixedOrders = true) (hB : Region.lexB .any l.toArray = true)
    (h : wpQuiet P l.toArray (Grew n w) (fun a' => ∀ w', Below n w w' → Q .normal a' w') l a) : (Code.region id l.toArray true).wp P Q a w :=
  wp_region_quiet (C := Grew n w) hm hB ((Below.refl n w).drew) (by simpa using h)
/-- An operation that yields a value, in the world that it got. -/
theorem quiet_val (v : Value) (h : ∀ W, C W → (execOp a.eval o).run P W = .ok (.value v) W) (hk : K (a.put o.dst v)) : o.quiet P a C K :=
  ⟨v, fun W hW => by unfold Oper.quietAt; rw [h W hW]; exact ⟨rfl, rfl⟩, hk⟩
/-- A call. -/
theorem quiet_calls (v : Value) {f : FuncId} {args : Array Value} (h : ∀ W, C W → (execOp a.eval o).run P W = .ok (.enter f args) W) (hc : ∀ W, C W → Calls P f args W fun e W' => e = .returned v ∧ C W') (hk : K (a.put o.dst v)) : o.quiet P a C K :=
  ⟨v, fun W hW => by unfold Oper.quietAt; rw [h W hW]; exact ⟨rfl, hc W hW⟩, hk⟩
end
end Go.Proofs.Qw
