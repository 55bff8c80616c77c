/- Contracts: slices.IndexFunc over letters, feature.Of, the reference's asked and Of. -/
import Derived.Test.YtcjdpicepjoeoaaDoorFeate
import Derived.Test.YtcjdpicepjoeoaaDoorSpeb
import Derived.Shelf.Abstract
namespace Go.Proofs.YtcjdpicepjoeoaaDoor
open Go.RowKit Go.Cg Go.Shelf Go.Maps

theorem find_spec (A : Alpha) (r : Int) : (∃ i, i < A.lets.length ∧ ((A.at_ i).rune == r) = true ∧ (∀ j, j < i → ((A.at_ j).rune == r) = false) ∧ findLetter A r = (i : Int)) ∨ ((∀ i, i < A.lets.length → ((A.at_ i).rune == r) = false) ∧ findLetter A r = -1) := by
  by_cases h : 0 ≤ findLetter A r
  · obtain ⟨i, h1, h2, h3, h4⟩ := findLetter_some h
    exact .inl ⟨i, h2, by simpa using h3, fun j hj => by simpa using h4 j hj, h1⟩
  · refine .inr ⟨fun i hi => ?_, ?_⟩
    · cases hh : ((A.at_ i).rune == r)
      · rfl
      · exfalso; apply h
        have : A.lets.findIdx? (fun l => l.rune == r) ≠ none := by
          rw [Ne, List.findIdx?_eq_none_iff]
          intro hn
          have := hn _ (List.getElem_mem hi)
          rw [← Alpha.at_eq hi] at this
          rw [hh] at this; cases this
        unfold findLetter
        cases hf : A.lets.findIdx? (fun l => l.rune == r) with
        | none => exact absurd hf this
        | some j => simp
    · rcases findLetter_range A r with h1 | h1
      · omega
      · exact h1

end Go.Proofs.YtcjdpicepjoeoaaDoor
