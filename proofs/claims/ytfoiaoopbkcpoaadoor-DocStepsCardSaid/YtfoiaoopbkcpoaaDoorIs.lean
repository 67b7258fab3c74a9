/- The walk of the law's 'is': is an answer the document's? It is written over then. -/
import Derived.Test.YtfoiaoopbkcpoaaDoorOwn
import Derived.Test.YtfoiaoopbkcpoaaDoorBase
import Derived.Test.YtfoiaoopbkcpoaaDoorSame
import Derived.Test.YtfoiaoopbkcpoaaDoorRefLong
namespace Go.Proofs.YtfoiaoopbkcpoaaDoor
open Go.RowKit
open Go.Proofs.Qw
/-- 'long': what it lets pass is small. -/
theorem long_any (v : Value) (d : Doc) (w : World) (S : Nat → Prop) (h : LinsR w S v d) (hs : Sane d) :
    Calls Tryd.prog 4 #[v] w (LongSaid d w) := by
  have HC := Lib.hid (refLong_any v d w S h hs)
  clear h hs
  go_enter Tryd.func4, Tryd.ntmps4
  go_wp2_with (go_at_call 14; refine HC.out.mono ?_; rintro e w1 ⟨r, rfl, hr, hb⟩)
  go_ret
  exact ⟨r, rfl, hr, hb⟩

end Go.Proofs.YtfoiaoopbkcpoaaDoor
