/- Contracts: the reference's asked. -/
import Derived.Test.YtkmfhcjdaglikaaGreatDoorFeatf
import Derived.Test.YtkmfhcjdaglikaaGreatDoorRegx
namespace Go.Proofs.YtkmfhcjdaglikaaGreatDoor
open Go.RowKit Go.Cg Go.Shelf Go.Maps

end Go.Proofs.YtkmfhcjdaglikaaGreatDoor
