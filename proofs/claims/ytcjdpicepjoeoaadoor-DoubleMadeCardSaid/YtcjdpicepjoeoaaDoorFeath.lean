/- Contracts: feature.Has, Class, Far. -/
import Derived.Test.YtcjdpicepjoeoaaDoorFeatg
namespace Go.Proofs.YtcjdpicepjoeoaaDoor
open Go.RowKit Go.Cg Go.Shelf Go.Maps

end Go.Proofs.YtcjdpicepjoeoaaDoor
