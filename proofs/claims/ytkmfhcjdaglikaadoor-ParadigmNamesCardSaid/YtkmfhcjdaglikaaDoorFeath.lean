/- Contracts: feature.Has, Class, Far. -/
import Derived.Test.YtkmfhcjdaglikaaDoorFeatg
namespace Go.Proofs.YtkmfhcjdaglikaaDoor
open Go.RowKit Go.Cg Go.Shelf Go.Maps

end Go.Proofs.YtkmfhcjdaglikaaDoor
