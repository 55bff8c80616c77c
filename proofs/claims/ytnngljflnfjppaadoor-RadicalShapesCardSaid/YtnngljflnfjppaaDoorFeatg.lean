/- Contracts: the reference's asked. -/
import Derived.Test.YtnngljflnfjppaaDoorFeatf
import Derived.Test.YtnngljflnfjppaaDoorRegx
namespace Go.Proofs.YtnngljflnfjppaaDoor
open Go.RowKit Go.Cg Go.Shelf Go.Maps

end Go.Proofs.YtnngljflnfjppaaDoor
