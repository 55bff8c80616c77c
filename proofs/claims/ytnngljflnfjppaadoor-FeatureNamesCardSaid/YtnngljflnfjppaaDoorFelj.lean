/- The law FeatureFar holds (its walk). -/
import Derived.Test.YtnngljflnfjppaaDoorFeli
namespace Go.Proofs.YtnngljflnfjppaaDoor
open Go.RowKit Go.Cg Go.Shelf Go.Maps

theorem farN_32 (A : Alpha) (x y : Int) : farN A x y ≤ 32 := by
  unfold farN; split
  · exact pop_le _ _
  · omega
theorem farN_feats {A : Alpha} (x y : Int) (h : farE A x y = 0) : farN A x y ≤ A.feats.length := by
  obtain ⟨h1, h2⟩ := farE_zero h
  have hok : A.Ok := by
    rcases ofE_cases A x with ⟨_, k, _⟩ | ⟨_, k, _⟩ | ⟨k, _⟩
    · exact k
    · exact k
    · omega
  have l1 := ofL_lt hok x
  have l2 := ofL_lt hok y
  unfold farN; rw [if_pos h]
  exact unlikeN_le hok.1 l1.1 l1.2.1 l2.1 l2.2.1
theorem farN_tri {A : Alpha} {x y z : Int} (h1 : farE A x y = 0) (h2 : farE A x z = 0) (h3 : farE A z y = 0) : farN A x y ≤ farN A x z + farN A z y := by
  unfold farN; rw [if_pos h1, if_pos h2, if_pos h3]
  exact unlikeN_tri _ _ _ _ _ _