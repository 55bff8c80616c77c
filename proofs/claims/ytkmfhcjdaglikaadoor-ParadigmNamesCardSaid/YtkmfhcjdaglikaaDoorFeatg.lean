/- Contracts: the reference's asked. -/
import Derived.Test.YtkmfhcjdaglikaaDoorFeatf
import Derived.Test.YtkmfhcjdaglikaaDoorRegx
namespace Go.Proofs.YtkmfhcjdaglikaaDoor
open Go.RowKit Go.Cg Go.Shelf Go.Maps

end Go.Proofs.YtkmfhcjdaglikaaDoor
