/- The law FeatureLeast holds (its walk): the least class; classes within classes. -/
import Derived.Test.YtnngljflnfjppaaDoorFell
import Derived.Test.YtnngljflnfjppaaDoorFelk
namespace Go.Proofs.YtnngljflnfjppaaDoor
open Go.RowKit Go.Cg Go.Shelf Go.Maps

theorem least_zero {A : Alpha} {l : List Int} (h : leastE A l ≠ 0) : leastP A l = 0 ∧ leastM A l = 0 := ⟨if_neg h, if_neg h⟩
theorem hasB_inv {A : Alpha} {r : Int} {p m : Nat} (h : hasB A r p m = true) : hasE A r p m = 0 ∧ likeB (ofL A r).plus (ofL A r).minus p m = true := by
  unfold hasB at h
  rw [Bool.and_eq_true, decide_eq_true_eq] at h
  exact h