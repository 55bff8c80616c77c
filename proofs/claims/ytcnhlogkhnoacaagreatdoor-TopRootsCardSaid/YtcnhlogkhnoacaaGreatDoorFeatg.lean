/- Contracts: the reference's asked. -/
import Derived.Test.YtcnhlogkhnoacaaGreatDoorFeatf
import Derived.Test.YtcnhlogkhnoacaaGreatDoorRegx
namespace Go.Proofs.YtcnhlogkhnoacaaGreatDoor
open Go.RowKit Go.Cg Go.Shelf Go.Maps

end Go.Proofs.YtcnhlogkhnoacaaGreatDoor
