/- Roots in shapes, as plain laws: what is filled into holes stands at them; what is skipped through. -/
import Derived.Test.YtcnhlogkhnoacaaGreatDoorRadg
namespace Go.Cg
open Go.RowKit Go.Lib

theorem rn_append_left {a b : List Int} {i : Nat} (h : i < a.length) : rn (a ++ b) i = rn a i := by
  unfold rn; rw [List.getD_eq_getElem?_getD, List.getElem?_append_left h, List.getD_eq_getElem?_getD]
theorem rn_append_last {a : List Int} {v : Int} {i : Nat} (h : i = a.length) : rn (a ++ [v]) i = v := by
  subst h; unfold rn; rw [List.getD_eq_getElem?_getD, List.getElem?_append_right (Nat.le_refl _)]; simp
theorem rn_map {l : List Int} {g : Int → Int} {i : Nat} (h : i < l.length) : rn (l.map g) i = g (rn l i) := by
  rw [rn_eq (by simpa using h), rn_eq h, List.getElem_map]
theorem fillTo_at (l f : List Int) : ∀ (k i : Nat), i < k → rn (fillTo l f k) i = if rn f i = 95 then rn l (holeN (f.take i)) else rn f i
  | 0, i, h => by omega
  | k + 1, i, h => by
    rw [fillTo]
    have e := fillTo_len l f k
    rcases Nat.lt_or_eq_of_le (Nat.le_of_lt_succ h) with h' | rfl
    · rw [rn_append_left (by omega), fillTo_at l f k i h']
    · rw [rn_append_last e.symm]
theorem fill_fits (l f : List Int) : fitsB (fillTo l f f.length) f = true := by
  refine fits_yes (fillTo_len l f f.length) fun i hi => ?_
  rw [fillTo_at l f _ _ hi]
  by_cases e : rn f i = 95
  · exact .inl e
  · rw [if_neg e]; exact .inr rfl
theorem fill_holes (l f : List Int) (hl : holeN f ≤ l.length) : ∀ k, k ≤ f.length → atHoles (fillTo l f f.length) f k = l.take (holeN (f.take k))
  | 0, _ => rfl
  | k + 1, h => by
    have ih := fill_holes l f hl k (by omega)
    by_cases e : rn f k = 95
    · have h2 := holeN_take (f := f) (k := k) (by omega)
      rw [if_pos e] at h2
      have h3 := holeN_lt (f := f) (k := k) (by omega) e
      rw [atHoles_yes e, ih, fillTo_at l f _ _ (by omega), if_pos e, h2, take_rn (by omega)]
    · have h2 := holeN_take (f := f) (k := k) (by omega)
      rw [if_neg e] at h2
      rw [atHoles_no e, ih, h2, Nat.add_zero]
theorem fill_back {l f : List Int} (h : holeN f = l.length) : atHoles (fillTo l f f.length) f f.length = l := by
  rw [fill_holes l f (by omega) _ (Nat.le_refl _), List.take_length, h, List.take_length]
theorem holeN_take_mono {f : List Int} {i k : Nat} (h : i ≤ k) : holeN (f.take i) ≤ holeN (f.take k) := by
  have : f.take i = (f.take k).take i := by rw [List.take_take, Nat.min_eq_left h]
  rw [this]; exact holeN_take_le _ _
theorem atHoles_at (l f : List Int) : ∀ (m k : Nat), k < m → m ≤ f.length → rn f k = 95 → rn (atHoles l f m) (holeN (f.take k)) = rn l k
  | 0, k, h, _, _ => by omega
  | m + 1, k, h, hm, he => by
    have hlen := atHoles_len l f m (by omega)
    rcases Nat.lt_or_eq_of_le (Nat.le_of_lt_succ h) with h' | rfl
    · have ih := atHoles_at l f m k h' (by omega) he
      have h1 := holeN_take (f := f) (k := k) (by omega)
      rw [if_pos he] at h1
      have h2 := holeN_take_mono (f := f) (show k + 1 ≤ m by omega)
      by_cases e : rn f m = 95
      · rw [atHoles_yes e, rn_append_left (by omega), ih]
      · rw [atHoles_no e, ih]
    · rw [atHoles_yes he, rn_append_last hlen.symm]
theorem unfill {l f : List Int} (h : fitsB l f = true) : ∀ k, k ≤ f.length → fillTo (atHoles l f f.length) f k = l.take k
  | 0, _ => rfl
  | k + 1, hk => by
    obtain ⟨h1, h2⟩ := fits_iff.1 h
    rw [fillTo, unfill h k (by omega), take_rn (show k < l.length by omega)]
    by_cases e : rn f k = 95
    · rw [if_pos e, atHoles_at l f f.length k (by omega) (Nat.le_refl _) e]
    · rw [if_neg e]
      rcases h2 k (by omega) with h3 | h3
      · exact absurd h3 e
      · rw [h3]
theorem unfill_all {l f : List Int} (h : fitsB l f = true) : fillTo (atHoles l f f.length) f f.length = l := by
  rw [unfill h _ (Nat.le_refl _), ← (fits_iff.1 h).1, List.take_length]
theorem atHoles_sub (l f : List Int) : ∀ k, k ≤ l.length → List.Sublist (atHoles l f k) (l.take k)
  | 0, _ => List.Sublist.refl _
  | k + 1, h => by
    have ih := atHoles_sub l f k (by omega)
    rw [take_rn (by omega), atHoles]
    split
    · exact List.Sublist.append ih (List.Sublist.refl _)
    · exact List.Sublist.trans ih (List.sublist_append_left _ _)

/-- what stands in a word, letter after letter, is skipped through -/
theorem skip_take {l x : List Int} : ∀ (k m : Nat), k ≤ x.length → m ≤ l.length → List.Sublist (l.take m) (x.take k) → m ≤ (skipTo l x k).length
  | 0, m, _, hm, h => by
    have := h.length_le
    rw [List.length_take, List.length_take] at this
    omega
  | k + 1, m, hk, hm, h => by
    rw [take_rn (show k < x.length by omega)] at h
    have hmono : (skipTo l x k).length ≤ (skipTo l x (k + 1)).length := by
      rw [skipTo]; split
      · rw [List.length_append]; omega
      · exact Nat.le_refl _
    match m, hm, h with
    | 0, _, _ => exact Nat.zero_le _
    | m + 1, hm, h =>
      rw [take_rn (show m < l.length by omega)] at h
      obtain ⟨p, q, e, hp, hq⟩ := List.sublist_append_iff.1 h
      by_cases hqn : q = []
      · subst hqn
        rw [List.append_nil] at e
        rw [← e] at hp
        have := skip_take (l := l) (x := x) k (m + 1) (by omega) hm (by rw [take_rn (show m < l.length by omega)]; exact hp)
        omega
      · have hq1 : q = [rn x k] := by
          have hle := hq.length_le
          cases q with
          | nil => exact absurd rfl hqn
          | cons a q =>
            cases q with
            | nil => have := hq.subset (List.mem_cons_self ..); simp at this; rw [this]
            | cons b q => simp at hle
        subst hq1
        have e2 : l.take m = p ∧ [rn l m] = [rn x k] := List.append_inj' e rfl
        obtain ⟨e3, e4⟩ := e2
        have ih := skip_take (l := l) (x := x) k m (by omega) (by omega) (by rw [e3]; exact hp)
        have e5 : rn l m = rn x k := by simpa using e4
        have hl := (skipTo_len l x k).2
        by_cases hlt : (skipTo l x k).length = m
        · rw [skipTo_yes (by omega) (by rw [hlt]; exact e5), List.length_append, List.length_singleton]; omega
        · omega
theorem skip_full {l x : List Int} (h : List.Sublist l x) : (skipTo l x x.length).length = l.length := by
  have h1 := skip_take (l := l) (x := x) x.length l.length (Nat.le_refl _) (Nat.le_refl _) (by rw [List.take_length, List.take_length]; exact h)
  have h2 := (skipTo_len l x x.length).2
  omega
theorem fill_sub {l f : List Int} (h : holeN f = l.length) : List.Sublist l (fillTo l f f.length) := by
  have := atHoles_sub (fillTo l f f.length) f f.length (by rw [fillTo_len]; exact Nat.le_refl _)
  rw [fill_back h] at this
  rwa [List.take_of_length_le (by rw [fillTo_len]; exact Nat.le_refl _)] at this

/-- holes laid at what q has not -/
theorem holed_at {q : Int → Bool} {r : Int} (h : r ≠ 95) : holed q r = 95 ↔ q r = false := by
  unfold holed
  cases hq : q r
  · simp
  · simp [h]
theorem holed_holes (l : List Int) (q : Int → Bool) (h : ∀ r ∈ l, r ≠ 95) : ∀ k, k ≤ l.length → atHoles l (l.map (holed q)) k = keepTo l q k
  | 0, _ => rfl
  | k + 1, hk => by
    have hlt : k < l.length := by omega
    have hne := h _ (show rn l k ∈ l by rw [rn_eq hlt]; exact List.getElem_mem _)
    have ih := holed_holes l q h k (by omega)
    cases hq : q (rn l k)
    · rw [atHoles_yes (by rw [rn_map hlt]; exact (holed_at hne).2 hq), ih, keepTo_yes hlt hq]
    · rw [atHoles_no (by rw [rn_map hlt]; exact fun e => by rw [(holed_at hne).1 e] at hq; cases hq), ih, keepTo_no hlt hq]
theorem holed_fits {l : List Int} {q : Int → Bool} : fitsB l (l.map (holed q)) = true := by
  refine fits_yes (by simp) fun i hi => ?_
  have hi' : i < l.length := by simpa using hi
  rw [rn_map hi']
  unfold holed
  split
  · exact .inr rfl
  · exact .inl rfl
theorem holed_back {l : List Int} {q : Int → Bool} (h : ∀ r ∈ l, r ≠ 95) : fillTo (l.filter fun r => !q r) (l.map (holed q)) (l.map (holed q)).length = l ∧ holeN (l.map (holed q)) = (l.filter fun r => !q r).length := by
  have e := holed_holes l q h l.length (Nat.le_refl _)
  rw [keepTo_all] at e
  have e2 : (l.map (holed q)).length = l.length := by simp
  constructor
  · have := unfill_all (holed_fits (l := l) (q := q))
    rw [e2, e] at this
    rw [e2]; exact this
  · have := atHoles_len l (l.map (holed q)) l.length (by omega)
    rw [e] at this
    rw [this, List.take_of_length_le (by omega)]
end Go.Cg
