/- The law FeatureNearest holds (its walk): none is nearer. -/
import Derived.Test.YtnngljflnfjppaaDoorFelj
namespace Go.Proofs.YtnngljflnfjppaaDoor
open Go.RowKit Go.Cg Go.Shelf Go.Maps

theorem bits_ne {x y k : Nat} (hx : x < 4294967296) (hy : y < 4294967296) : (bits BinOp.and IntKind.u32 ((x : Int) / 2 ^ k) 1 != bits BinOp.and IntKind.u32 ((y : Int) / 2 ^ k) 1) = (x ^^^ y).testBit k := by
  rw [bit_at hx, bit_at hy, Nat.testBit_xor]
  cases x.testBit k <;> cases y.testBit k <;> rfl

theorem hasE_zero {A : Alpha} {r : Int} {p m : Nat} (h : hasE A r p m = 0) : ofE A r = 0 ∧ mayB A.feats.length p m = true := by
  unfold hasE at h
  split at h
  · rename_i h0
    split at h
    · rename_i h1; exact ⟨h0, h1⟩
    · omega
  · contradiction
theorem ofE_zero {A : Alpha} {r : Int} (h : ofE A r = 0) : A.Ok ∧ 0 ≤ findLetter A r := by
  rcases ofE_cases A r with ⟨_, h, h'⟩ | ⟨h, _⟩ | ⟨h, _⟩
  · exact ⟨h, h'⟩
  · omega
  · omega
theorem runes_distinct {A : Alpha} (hok : A.Ok) {i j : Nat} (hi : i < A.lets.length) (hj : j < A.lets.length) (h : (A.at_ i).rune = (A.at_ j).rune) : i = j := by
  rcases Nat.lt_trichotomy i j with hh | hh | hh
  · exact absurd h ((hok.2.2.2.2 j hj).2.2 i hh)
  · exact hh
  · exact absurd h.symm ((hok.2.2.2.2 i hi).2.2 j hh)
theorem ofL_at {A : Alpha} (hok : A.Ok) {i : Nat} (hi : i < A.lets.length) : ofL A (A.at_ i).rune = A.at_ i ∧ ofE A (A.at_ i).rune = 0 := by
  have hf : findLetter A (A.at_ i).rune = i := findLetter_at hi (fun j hj => (hok.2.2.2.2 i hi).2.2 j hj) rfl
  exact ⟨ofL_ok hok hf, ofE_ok hok (by omega)⟩
theorem want_zero (l : Letter) (hl : l.wf) : wantP l 0 0 = l.plus ∧ wantM l 0 0 = l.minus := by
  obtain ⟨_, _, h3, h4⟩ := hl
  have e : ∀ v, v < 4294967296 → (v &&& (4294967295 - 0)) ||| 0 = v := fun v hv => by
    have := (and_mask_iff (v := v) (n := 32)).2 (by rw [show (2 : Nat) ^ 32 = 4294967296 from by decide]; exact hv)
    rw [show (2 : Nat) ^ 32 - 1 = 4294967295 - 0 from by decide] at this
    rw [this, Nat.or_zero]
  unfold wantP wantM
  exact ⟨e _ h3, e _ h4⟩