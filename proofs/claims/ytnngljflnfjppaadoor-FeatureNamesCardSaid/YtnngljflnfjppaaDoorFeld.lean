/- Contracts of the reference: Nearest, Near. -/
import Derived.Test.YtnngljflnfjppaaDoorFelc
namespace Go.Proofs.YtnngljflnfjppaaDoor
open Go.RowKit Go.Cg Go.Shelf Go.Maps

theorem want24 {l : Letter} {p m : Nat} (h1 : l.plus < 16777216) (h2 : l.minus < 16777216) (hp : p < 16777216) (hm : m < 16777216) : wantP l p m < 16777216 ∧ wantM l p m < 16777216 := by
  unfold wantP wantM
  exact ⟨Nat.or_lt_two_pow (n := 24) (Nat.lt_of_le_of_lt Nat.and_le_left h1) hp, Nat.or_lt_two_pow (n := 24) (Nat.lt_of_le_of_lt Nat.and_le_left h2) hm⟩