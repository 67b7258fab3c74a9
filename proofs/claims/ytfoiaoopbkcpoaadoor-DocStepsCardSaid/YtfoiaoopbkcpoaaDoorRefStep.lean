/- The walks of the reference's Offset, At, Step. -/
import Derived.Test.YtfoiaoopbkcpoaaDoorPlacePlain
namespace Go.Proofs.YtfoiaoopbkcpoaaDoor
open Go.RowKit
open Go.Proofs.Qw

end Go.Proofs.YtfoiaoopbkcpoaaDoor
