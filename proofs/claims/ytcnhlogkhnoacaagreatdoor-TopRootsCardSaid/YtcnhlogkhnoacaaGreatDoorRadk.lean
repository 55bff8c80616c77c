/- Roots in shapes, as plain laws: merged and split, split and merged; a word's radicals in its shape; what is skipped through. -/
import Derived.Test.YtcnhlogkhnoacaaGreatDoorRadj
import Derived.Test.YtcnhlogkhnoacaaGreatDoorRadd
import Derived.Test.YtcnhlogkhnoacaaGreatDoorRady
namespace Go.Proofs.YtcnhlogkhnoacaaGreatDoor
open Go.RowKit Go.Cg Go.Shelf Go.Maps

theorem in_ne {A : Alpha} (hA : A.Ok) {l : List Int} (h : InA A l) : ∀ r ∈ l, r ≠ 95 := fun r hr e => by
  have := letter_ok hA (h r hr)
  subst e
  exact absurd this (by decide)
theorem merge_ok {A : Alpha} {r nm fm : ByteArray} (h : mergeE A r nm fm = 0) : (spell A r).2 = 0 ∧ nmB nm = true ∧ formB A fm = true ∧ txtHoles fm = (spell A r).1.length := by
  rw [mergeE_eq] at h
  by_cases h0 : (spell A r).2 = 0
  · rw [if_neg (by rw [h0]; decide)] at h
    by_cases h1 : (nmB nm = true ∧ formB A fm = true) ∧ txtHoles fm = (spell A r).1.length
    · exact ⟨h0, h1.1.1, h1.1.2, h1.2⟩
    · rw [if_neg h1] at h; cases h
  · rw [if_pos h0] at h; exact absurd h h0
/-- merged: what letters the word has; it is split to the root; the root is skipped through -/
theorem merge_split {A : Alpha} {r nm fm : ByteArray} (h : mergeE A r nm fm = 0) :
    splitE A (mergeS A r nm fm) nm fm = 0 ∧ splitB A (mergeS A r nm fm) nm fm = true ∧ splitS A (mergeS A r nm fm) nm fm = r ∧ skE A r (mergeS A r nm fm) = 0 ∧ skB A r (mergeS A r nm fm) = true := by
  obtain ⟨h0, h1, h2, h3⟩ := merge_ok h
  obtain ⟨hA, hr, hin, h64⟩ := spell_ok h0
  obtain ⟨f1, f2, f3, f4⟩ := form_ok h2
  have hh := form_holes hA h2
  rw [h3] at hh
  have hm : mergeS A r nm fm = runesBytes (fillTo (spell A r).1 (formL A fm) (formL A fm).length) := by rw [mergeS_eq, if_pos h]
  have hfi : InA A (fillTo (spell A r).1 (formL A fm) (formL A fm).length) := fun x hx => by
    rcases fillTo_mem _ (Nat.le_refl _) (by omega) hx with e | e
    · exact hin x e
    · rcases (f2 x e.1).1 with e2 | e2
      · exact absurd e2 e.2
      · exact e2
  have hsp := spell_rb hA hfi (by rw [fillTo_len]; exact f3)
  rw [hm]
  have hE : splitE A (runesBytes (fillTo (spell A r).1 (formL A fm) (formL A fm).length)) nm fm = 0 := by
    rw [splitE_eq, hsp, if_neg (fun h => h rfl), if_pos ⟨h1, h2⟩]
  have hB : splitB A (runesBytes (fillTo (spell A r).1 (formL A fm) (formL A fm).length)) nm fm = true := by
    rw [splitB_eq, hE, hsp, fill_fits]; rfl
  have hKE : skE A r (runesBytes (fillTo (spell A r).1 (formL A fm) (formL A fm).length)) = 0 := by
    rw [skE_eq, hsp, if_neg (by rw [h0]; decide)]
  refine ⟨hE, hB, ?_, hKE, ?_⟩
  · rw [splitS_eq, hB, if_pos rfl, hsp, fill_back hh.symm, hr]
  · rw [skB_eq, hKE, hsp, skip_full (fill_sub hh.symm)]; simp
/-- split: merged again, it is the word -/
theorem split_merge {A : Alpha} {s nm fm : ByteArray} (hE : splitE A s nm fm = 0) (hB : splitB A s nm fm = true) : mergeE A (splitS A s nm fm) nm fm = 0 ∧ mergeS A (splitS A s nm fm) nm fm = s := by
  have hE' := hE
  rw [splitE_eq] at hE'
  have h0 : (spell A s).2 = 0 := by
    by_cases h : (spell A s).2 = 0
    · exact h
    · rw [if_pos h] at hE'; exact absurd hE' h
  rw [if_neg (by rw [h0]; decide)] at hE'
  have hsh : nmB nm = true ∧ formB A fm = true := by
    by_cases h : nmB nm = true ∧ formB A fm = true
    · exact h
    · rw [if_neg h] at hE'; cases hE'
  obtain ⟨hA, hr, hin, h64⟩ := spell_ok h0
  obtain ⟨f1, f2, f3, f4⟩ := form_ok hsh.2
  have hfit : fitsB (spell A s).1 (formL A fm) = true := by
    rw [splitB_eq, Bool.and_eq_true] at hB; exact hB.2
  have hlen := (fits_iff.1 hfit).1
  have hS : splitS A s nm fm = runesBytes (atHoles (spell A s).1 (formL A fm) (formL A fm).length) := by rw [splitS_eq, if_pos hB]
  have hinH : InA A (atHoles (spell A s).1 (formL A fm) (formL A fm).length) := fun x hx => hin x (atHoles_mem _ (by omega) hx)
  have hal := atHoles_len (spell A s).1 (formL A fm) _ (Nat.le_refl _)
  rw [List.take_length] at hal
  have hle := atHoles_le (spell A s).1 (formL A fm) (formL A fm).length
  have hsp := spell_rb hA hinH (by omega)
  rw [hS]
  have hE2 : mergeE A (runesBytes (atHoles (spell A s).1 (formL A fm) (formL A fm).length)) nm fm = 0 := by
    rw [mergeE_eq, hsp, if_neg (fun h => h rfl), if_pos ⟨hsh, by rw [form_holes hA hsh.2, hal]⟩]
  refine ⟨hE2, ?_⟩
  rw [mergeS_eq, hE2, if_pos rfl, hsp, unfill_all hfit, hr]
theorem rad_ok {A : Alpha} {s : ByteArray} {p : Nat} (h : radE A s p = 0) : (spell A s).2 = 0 ∧ classE A p 0 = 0 := by
  rw [radE_eq] at h
  by_cases h0 : (spell A s).2 = 0
  · rw [if_neg (by rw [h0]; decide)] at h; exact ⟨h0, h⟩
  · rw [if_pos h0] at h; exact absurd h h0
/-- a word's radicals in its shape are the word; of its radicals the radicals; they are skipped through -/
theorem rad_back {A : Alpha} {s : ByteArray} {p : Nat} (h : radE A s p = 0) :
    mergeE A (radS A s p) ⟨#[]⟩ (shapeS A s p) = 0 ∧ mergeS A (radS A s p) ⟨#[]⟩ (shapeS A s p) = s ∧ radE A (radS A s p) p = 0 ∧ radS A (radS A s p) p = radS A s p ∧ skE A (radS A s p) s = 0 ∧ skB A (radS A s p) s = true ∧ (spell A (radS A s p)).2 = 0 ∧ (skL A (radS A s p) s).length = (spell A (radS A s p)).1.length ∧ txtHoles (shapeS A s p) = (spell A (radS A s p)).1.length ∧ (skL A (radS A s p) s).Pairwise (· < ·) := by
  obtain ⟨h0, hc⟩ := rad_ok h
  obtain ⟨hA, hr, hin, h64⟩ := spell_ok h0
  have hR : radS A s p = runesBytes ((spell A s).1.filter fun r => !hasL A p 0 r) := by rw [radS_eq, if_pos h]
  have hS : shapeS A s p = runesBytes ((spell A s).1.map (holed (hasL A p 0))) := by rw [shapeS_eq, if_pos h]
  obtain ⟨l, hl⟩ : ∃ l, (spell A s).1 = l := ⟨_, rfl⟩
  rw [hl] at hr hin h64 hR hS
  obtain ⟨q, hq⟩ : ∃ q, hasL A p 0 = q := ⟨_, rfl⟩
  rw [hq] at hR hS
  have hne := in_ne hA hin
  have hinF : InA A (l.filter fun r => !q r) := fun x hx => hin x (List.mem_filter.1 hx).1
  have hlF : (l.filter fun r => !q r).length ≤ 64 := Nat.le_trans (List.length_filter_le ..) h64
  have hsp := spell_rb hA hinF hlF
  obtain ⟨hb1, hb2⟩ := holed_back (q := q) hne
  have hfl : ∀ r ∈ l.map (holed q), r = 95 ∨ 0 ≤ findLetter A r := fun r hm => by
    obtain ⟨x, hx, rfl⟩ := List.mem_map.1 hm
    unfold holed
    split
    · exact .inr (hin x hx)
    · exact .inl rfl
  obtain ⟨hfb, hfL⟩ := form_rb hA hfl (by rw [List.length_map]; exact h64)
  have hcnt := form_holes hA hfb
  rw [hfL, hb2] at hcnt
  rw [hR, hS]
  have hme : mergeE A (runesBytes (l.filter fun r => !q r)) ⟨#[]⟩ (runesBytes (l.map (holed q))) = 0 := by
    rw [mergeE_eq, hsp, if_neg (fun h => h rfl), if_pos ⟨⟨by decide, hfb⟩, hcnt⟩]
  have hre : radE A (runesBytes (l.filter fun r => !q r)) p = 0 := by rw [radE_eq, hsp, if_neg (fun h => h rfl)]; exact hc
  have hske : skE A (runesBytes (l.filter fun r => !q r)) s = 0 := by rw [skE_eq, hsp, if_neg (fun h => h rfl)]; exact h0
  have hsub : List.Sublist (l.filter fun r => !q r) l := List.filter_sublist
  have hfull := skip_full hsub
  have hskb : skB A (runesBytes (l.filter fun r => !q r)) s = true := by rw [skB_eq, hske, hsp, hl, hfull]; simp
  have hskl : skL A (runesBytes (l.filter fun r => !q r)) s = skipTo (l.filter fun r => !q r) l l.length := by rw [skL_eq, if_pos hskb, hsp, hl]
  refine ⟨hme, ?_, hre, ?_, hske, hskb, by rw [hsp], ?_, ?_, ?_⟩
  · rw [mergeS_eq, if_pos hme, hsp, hfL, hb1, hr]
  · rw [radS_eq, if_pos hre, hsp, hq, List.filter_filter]; simp
  · rw [hskl, hsp, hfull]
  · rw [hsp]; exact hcnt
  · rw [hskl]; exact skipTo_sorted _ _ _
theorem rad_err {A : Alpha} {s : ByteArray} {p : Nat} (h : radE A s p ≠ 0) : radS A s p = ⟨#[]⟩ ∧ shapeS A s p = ⟨#[]⟩ := by
  rw [radS_eq, shapeS_eq, if_neg h, if_neg h]; exact ⟨rfl, rfl⟩
end Go.Proofs.YtcnhlogkhnoacaaGreatDoor
