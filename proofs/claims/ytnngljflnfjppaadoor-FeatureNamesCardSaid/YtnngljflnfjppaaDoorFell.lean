/- The law FeatureBack holds (its walk): texts and classes, there and back. -/
import Derived.Test.YtnngljflnfjppaaDoorFelj
namespace Go.Proofs.YtnngljflnfjppaaDoor
open Go.RowKit Go.Cg Go.Shelf Go.Maps

theorem parseR_cases (A : Alpha) (s : ByteArray) : ((parseR A s).2.2.2 = 0 ∧ A.Ok ∧ mayB A.feats.length (parseR A s).1 (parseR A s).2.1 = true ∧ (parseR A s).2.2.1 = 0) ∨
    ((parseR A s).2.2.2 ≠ 0 ∧ (parseR A s).1 = 0 ∧ (parseR A s).2.1 = 0 ∧ (parseR A s).2.2.1 ≤ s.size) := by
  unfold parseR
  split
  · rename_i hok
    split
    · rcases parseGo_may (A := A) s s.size 0 0 0 (may_zero _) with ⟨h1, h2, h3⟩ | ⟨h1, h2, h3, h4⟩
      · exact .inl ⟨h1, hok, h2, h3⟩
      · exact .inr ⟨by rw [h1]; decide, h2, h3, h4⟩
    · exact .inr ⟨by decide, rfl, rfl, Nat.zero_le _⟩
  · exact .inr ⟨by decide, rfl, rfl, Nat.zero_le _⟩
theorem classE_inv {A : Alpha} {p m : Nat} (h : classE A p m = 0) : A.Ok ∧ mayB A.feats.length p m = true := by
  unfold classE at h
  split at h
  · rename_i h0
    split at h
    · rename_i h1; exact ⟨h0, h1⟩
    · omega
  · omega
theorem textS_small {A : Alpha} (hok : A.Ok) (p m : Nat) : (textS A p m).size ≤ 140737488351232 := by
  unfold textS
  split
  · have := textTo_le hok p m A.feats.length (Nat.le_refl _)
    have := hok.1
    omega
  · decide
theorem may_lt {A : Alpha} (hok : A.Ok) {p m : Nat} (h : mayB A.feats.length p m = true) : p < 4294967296 ∧ m < 4294967296 := by
  have := pow24 hok.1
  unfold mayB at h
  simp only [decide_eq_true_eq] at h
  omega