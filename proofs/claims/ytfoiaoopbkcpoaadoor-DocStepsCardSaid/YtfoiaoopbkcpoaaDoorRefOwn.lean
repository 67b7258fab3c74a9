/- The walks of the reference's Own, Frame. -/
import Derived.Test.YtfoiaoopbkcpoaaDoorSame
import Derived.Deep.RegionHeld3
import Derived.Deep.DrawnRows
namespace Go.Proofs.YtfoiaoopbkcpoaaDoor
open Go.RowKit
open Go.Proofs.Qw
attribute [local go_sem ↓] Go.wp_at_zero Go.wp_at_succ

end Go.Proofs.YtfoiaoopbkcpoaaDoor
namespace Go.Proofs.YtfoiaoopbkcpoaaDoor
open Go.RowKit
open Go.Proofs.Qw

end Go.Proofs.YtfoiaoopbkcpoaaDoor
