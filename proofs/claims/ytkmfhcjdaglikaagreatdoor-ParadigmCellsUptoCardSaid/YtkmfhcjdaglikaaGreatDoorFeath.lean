/- Contracts: feature.Has, Class, Far. -/
import Derived.Test.YtkmfhcjdaglikaaGreatDoorFeatg
namespace Go.Proofs.YtkmfhcjdaglikaaGreatDoor
open Go.RowKit Go.Cg Go.Shelf Go.Maps

end Go.Proofs.YtkmfhcjdaglikaaGreatDoor
