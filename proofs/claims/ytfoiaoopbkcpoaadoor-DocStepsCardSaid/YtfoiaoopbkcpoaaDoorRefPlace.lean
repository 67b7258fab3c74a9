/- The walks of the reference's Size, End, Is, Clamp, Cmp. -/
import Derived.Test.YtfoiaoopbkcpoaaDoorRefOwn
import Derived.Test.YtfoiaoopbkcpoaaDoorDocPos
namespace Go.Proofs.YtfoiaoopbkcpoaaDoor
open Go.RowKit
open Go.Proofs.Qw

theorem run_eql_pos (p q : Ps) (w : World) : (binOp .eql 29 (.agg #[.int .i64 p.line, .int .i64 p.col]) (.agg #[.int .i64 q.line, .int .i64 q.col])).run Tryd.prog w = .ok (.bool (decide (p = q))) w := by
  have h1 : Tryd.prog.stoodInHeld 29 = false := by kernel_rfl
  have h2 : Tryd.prog.underlying 29 = some (.struct (Tryd.prog.fieldsOf 29)) := by kernel_rfl
  rw [run_eql_struct, show (10000:Nat) = 9999 + 1 from rfl, run_equalIn_agg _ _ _ _ _ h2 h1]
  simp [Tryd.underlying29, go_sem]
  obtain ⟨a, b⟩ := p
  obtain ⟨d, e⟩ := q
  simp only [Ps.mk.injEq]
  by_cases e1 : a = d <;> by_cases e2 : b = e <;> simp [e1, e2]
theorem guardPos : Tryd.prog.eqGuardType Tryd.prog.depth 29 = false := by kernel_rfl
end Go.Proofs.YtfoiaoopbkcpoaaDoor
