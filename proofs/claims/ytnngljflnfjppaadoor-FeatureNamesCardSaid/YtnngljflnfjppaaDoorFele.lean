/- Contracts: the reference's named, Bit. -/
import Derived.Test.YtnngljflnfjppaaDoorFelb
import Derived.Test.YtnngljflnfjppaaDoorFeld
import Derived.Test.YtnngljflnfjppaaDoorBuil
namespace Go.Proofs.YtnngljflnfjppaaDoor
open Go.RowKit Go.Cg Go.Shelf Go.Maps

theorem RunesAt.nil (w : World) : RunesAt w none [] := ⟨.inl rfl, by simp, fun i hi => absurd hi (by simp)⟩

theorem asked_list (A : Alpha) (l : List Int) : askedN A l = if A.Ok then (if ∀ i, i < l.length → 0 ≤ findLetter A (rn l i) then 0 else 5) else 7 := rfl