/- What was printed is parsed again: the plain law, by all values of the four bits. -/
import Derived.Test.YtcpenjbacgjjeaaDoorCssPlain
namespace Go.Proofs.Qw
theorem nat_wrap {n : Nat} (h : n < 9223372036854775808) : IntKind.i64.wrap (n : Int) = n := by rw [IntKind.wrap_i64]; omega
/-- The low four bits of a number. -/
theorem low4 (x : Int) : ∃ i : Fin 16, bits .and .i64 x 15 = (i.val : Int) := by
  have h : (BitVec.ofInt 64 x &&& BitVec.ofInt 64 15).toNat < 16 := by
    have e : (BitVec.ofInt 64 15).toNat = 15 := by decide
    rw [BitVec.toNat_and, e]
    exact Nat.lt_of_le_of_lt Nat.and_le_right (by omega)
  refine ⟨⟨_, h⟩, ?_⟩
  exact nat_wrap (Nat.lt_trans h (by decide))
def back (s c : Int) : Bool :=
  cssParse (cssPrint s c) == (s, if (bits .and .i64 (bits .or .i64 s c) 12 != 0) = true then bits .or .i64 c (bits .andNot .i64 12 s) else c)
theorem back_all : (List.finRange 16).all (fun i => (List.finRange 16).all fun j => back (i.val : Int) (bits .andNot .i64 (j.val : Int) (i.val : Int))) = true := by decide +kernel
theorem back_any (x y : Int) : back (bits .and .i64 x 15) (bits .andNot .i64 (bits .and .i64 y 15) (bits .and .i64 x 15)) = true := by
  obtain ⟨i, hi⟩ := low4 x
  obtain ⟨j, hj⟩ := low4 y
  rw [hi, hj]
  exact List.all_eq_true.1 (List.all_eq_true.1 back_all i (List.mem_finRange i)) j (List.mem_finRange j)
end Go.Proofs.Qw
