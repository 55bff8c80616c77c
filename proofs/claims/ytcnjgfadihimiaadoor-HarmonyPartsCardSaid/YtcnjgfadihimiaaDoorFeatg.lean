/- Contracts: the reference's asked. -/
import Derived.Test.YtcnjgfadihimiaaDoorFeatf
import Derived.Test.YtcnjgfadihimiaaDoorRegx
namespace Go.Proofs.YtcnjgfadihimiaaDoor
open Go.RowKit Go.Cg Go.Shelf Go.Maps

end Go.Proofs.YtcnjgfadihimiaaDoor
