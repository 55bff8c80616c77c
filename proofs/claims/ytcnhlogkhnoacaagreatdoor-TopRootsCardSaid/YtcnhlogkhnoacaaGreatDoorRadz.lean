/- Radicals as plain functions: the places of a class, what is kept, holes laid, what is skipped through. -/
import Derived.Test.YtcnhlogkhnoacaaGreatDoorDoubz
namespace Go.Cg
open Go.RowKit Go.Lib

theorem Reads.cells_ {w : World} {p : Option Addr} {k : Nat} {f : Nat → Value} (h : Reads w p k f) {j : Nat} (hj : j < k) : ∃ b off, p = some ⟨b, off, none⟩ ∧ b < w.heap.size ∧ ∀ j, j < k → w.cell? ⟨b, off + j, none⟩ = some (f j) := by
  rcases h with h0 | h
  · omega
  · exact h
theorem take_rn {l : List Int} {k : Nat} (h : k < l.length) : l.take (k + 1) = l.take k ++ [rn l k] := by
  rw [rn_eq h, List.take_succ_eq_append_getElem h]
/-- the places below k at which q holds -/
def peaksTo (l : List Int) (q : Int → Bool) : Nat → List Nat
  | 0 => []
  | k + 1 => if q (rn l k) = true then peaksTo l q k ++ [k] else peaksTo l q k
theorem peaksTo_yes {l : List Int} {q : Int → Bool} {k : Nat} (h : q (rn l k) = true) : peaksTo l q (k + 1) = peaksTo l q k ++ [k] := by rw [peaksTo, if_pos h]
theorem peaksTo_no {l : List Int} {q : Int → Bool} {k : Nat} (h : q (rn l k) = false) : peaksTo l q (k + 1) = peaksTo l q k := by rw [peaksTo, if_neg (by rw [h]; decide)]
theorem peaksTo_len (l : List Int) (q : Int → Bool) : ∀ k, (peaksTo l q k).length ≤ k
  | 0 => Nat.le_refl _
  | k + 1 => by
    have := peaksTo_len l q k
    rw [peaksTo]; split
    · simp; omega
    · omega
theorem mem_peaksTo (l : List Int) (q : Int → Bool) (j : Nat) : ∀ k, j ∈ peaksTo l q k ↔ j < k ∧ q (rn l j) = true
  | 0 => by simp [peaksTo]
  | k + 1 => by
    have ih := mem_peaksTo l q j k
    rw [peaksTo]
    split
    · rename_i h
      rw [List.mem_append, ih, List.mem_singleton]
      constructor
      · rintro (⟨a, b⟩ | rfl)
        · exact ⟨by omega, b⟩
        · exact ⟨by omega, h⟩
      · rintro ⟨a, b⟩
        by_cases e : j = k
        · exact .inr e
        · exact .inl ⟨by omega, b⟩
    · rename_i h
      rw [ih]
      constructor
      · rintro ⟨a, b⟩; exact ⟨by omega, b⟩
      · rintro ⟨a, b⟩
        refine ⟨?_, b⟩
        rcases Nat.lt_or_eq_of_le (Nat.le_of_lt_succ a) with c | rfl
        · exact c
        · exact absurd b h
theorem peaksTo_congr {l : List Int} {q q' : Int → Bool} : ∀ {k : Nat}, (∀ j, j < k → q (rn l j) = q' (rn l j)) → peaksTo l q k = peaksTo l q' k
  | 0, _ => rfl
  | k + 1, h => by rw [peaksTo, peaksTo, h k (Nat.lt_succ_self _), peaksTo_congr (fun j hj => h j (by omega))]
def intCells (l : List Nat) : List Value := l.map fun (i : Nat) => .int .i64 (i : Int)
theorem intCells_append (a b : List Nat) : intCells (a ++ b) = intCells a ++ intCells b := by simp [intCells]
theorem intCells_len (a : List Nat) : (intCells a).length = a.length := by simp [intCells]
def nth (l : List Nat) (j : Nat) : Nat := l.getD j 0
theorem nth_eq {l : List Nat} {j : Nat} (h : j < l.length) : nth l j = l[j] := by simp [nth, List.getD, h]
theorem nth_mem {l : List Nat} {j : Nat} (h : j < l.length) : nth l j ∈ l := by rw [nth_eq h]; exact List.getElem_mem h
theorem intCells_at {a : List Nat} {i : Nat} (h : i < a.length) : (intCells a)[i]? = some (.int .i64 ((nth a i : Nat) : Int)) := by rw [nth_eq h]; simp [intCells, h]

/-- what is kept of the first k letters: those at which q does not hold -/
def keepTo (l : List Int) (q : Int → Bool) (k : Nat) : List Int := (l.take k).filter fun r => !q r
theorem keepTo_zero (l : List Int) (q : Int → Bool) : keepTo l q 0 = [] := rfl
theorem keepTo_yes {l : List Int} {q : Int → Bool} {k : Nat} (h : k < l.length) (hq : q (rn l k) = false) : keepTo l q (k + 1) = keepTo l q k ++ [rn l k] := by
  unfold keepTo; rw [take_rn h, List.filter_append]; simp [hq]
theorem keepTo_no {l : List Int} {q : Int → Bool} {k : Nat} (h : k < l.length) (hq : q (rn l k) = true) : keepTo l q (k + 1) = keepTo l q k := by
  unfold keepTo; rw [take_rn h, List.filter_append]; simp [hq]
theorem keepTo_all (l : List Int) (q : Int → Bool) : keepTo l q l.length = l.filter fun r => !q r := by unfold keepTo; rw [List.take_length]
theorem keepTo_len (l : List Int) (q : Int → Bool) (k : Nat) : (keepTo l q k).length ≤ k := by
  unfold keepTo; exact Nat.le_trans (List.length_filter_le ..) (by rw [List.length_take]; omega)
theorem keepTo_mem {l : List Int} {q : Int → Bool} {k : Nat} {r : Int} (h : r ∈ keepTo l q k) : r ∈ l := List.mem_of_mem_take (List.mem_filter.1 h).1

/-- holes laid at the first k letters at which q does not hold -/
def holed (q : Int → Bool) (r : Int) : Int := if q r = true then r else 95
def holesTo (l : List Int) (q : Int → Bool) (k : Nat) : List Int := (l.take k).map (holed q) ++ l.drop k
theorem holesTo_zero (l : List Int) (q : Int → Bool) : holesTo l q 0 = l := rfl
theorem holesTo_len {l : List Int} {q : Int → Bool} {k : Nat} (h : k ≤ l.length) : (holesTo l q k).length = l.length := by unfold holesTo; simp; omega
theorem holesTo_all (l : List Int) (q : Int → Bool) : holesTo l q l.length = l.map (holed q) := by unfold holesTo; rw [List.take_length, List.drop_length, List.append_nil]
theorem drop_rn {l : List Int} {k : Nat} (h : k < l.length) : l.drop k = rn l k :: l.drop (k + 1) := by rw [rn_eq h]; exact List.drop_eq_getElem_cons h
theorem holesTo_at {l : List Int} {q : Int → Bool} {k : Nat} (h : k < l.length) : rn (holesTo l q k) k = rn l k := by
  unfold holesTo rn
  have e : ((l.take k).map (holed q)).length = k := by simp; omega
  rw [List.getD_eq_getElem?_getD, List.getElem?_append_right (by omega), e, List.getElem?_drop, List.getD_eq_getElem?_getD]; simp
theorem holesTo_yes {l : List Int} {q : Int → Bool} {k : Nat} (h : k < l.length) (hq : q (rn l k) = true) : holesTo l q (k + 1) = holesTo l q k := by
  unfold holesTo
  rw [take_rn h, List.map_append, drop_rn h]
  have : holed q (rn l k) = rn l k := if_pos hq
  simp [this]
theorem holesTo_no {l : List Int} {q : Int → Bool} {k : Nat} (h : k < l.length) (hq : q (rn l k) = false) : holesTo l q (k + 1) = (holesTo l q k).set k 95 := by
  unfold holesTo
  have e : ((l.take k).map (holed q)).length = k := by simp; omega
  have e2 : holed q (rn l k) = 95 := if_neg (by rw [hq]; decide)
  rw [take_rn h, List.map_append, drop_rn h, List.set_append_right _ _ (by omega), e, Nat.sub_self]
  simp [e2]

/-- the first of x's letters, one after the other, through which l is skipped: the places of x below k -/
def skipTo (l x : List Int) : Nat → List Nat
  | 0 => []
  | k + 1 => if (skipTo l x k).length < l.length ∧ rn l (skipTo l x k).length = rn x k then skipTo l x k ++ [k] else skipTo l x k
theorem skipTo_yes {l x : List Int} {k : Nat} (h : (skipTo l x k).length < l.length) (h2 : rn l (skipTo l x k).length = rn x k) : skipTo l x (k + 1) = skipTo l x k ++ [k] := by rw [skipTo, if_pos ⟨h, h2⟩]
theorem skipTo_full {l x : List Int} {k : Nat} (h : ¬ (skipTo l x k).length < l.length) : skipTo l x (k + 1) = skipTo l x k := by rw [skipTo, if_neg fun c => h c.1]
theorem skipTo_no {l x : List Int} {k : Nat} (h : rn l (skipTo l x k).length ≠ rn x k) : skipTo l x (k + 1) = skipTo l x k := by rw [skipTo, if_neg fun c => h c.2]
theorem skipTo_len (l x : List Int) : ∀ k, (skipTo l x k).length ≤ k ∧ (skipTo l x k).length ≤ l.length
  | 0 => ⟨Nat.le_refl _, Nat.zero_le _⟩
  | k + 1 => by
    have := skipTo_len l x k
    rw [skipTo]; split
    · rw [List.length_append, List.length_singleton]; omega
    · omega
theorem skipTo_stay {l x : List Int} {k : Nat} (h : (skipTo l x k).length = l.length) : ∀ d, skipTo l x (k + d) = skipTo l x k
  | 0 => rfl
  | d + 1 => by
    have := skipTo_stay h d
    show skipTo l x ((k + d) + 1) = _
    rw [skipTo_full (by rw [this]; omega), this]
theorem skipTo_mem (l x : List Int) : ∀ k, ∀ i ∈ skipTo l x k, i < k
  | 0 => by intro i hi; cases hi
  | k + 1 => by
    intro i hi
    rw [skipTo] at hi; split at hi
    · rcases List.mem_append.1 hi with h | h
      · have := skipTo_mem l x k i h; omega
      · rw [List.mem_singleton.1 h]; omega
    · have := skipTo_mem l x k i hi; omega
theorem skipTo_sorted (l x : List Int) : ∀ k, (skipTo l x k).Pairwise (· < ·)
  | 0 => List.Pairwise.nil
  | k + 1 => by
    have ih := skipTo_sorted l x k
    rw [skipTo]; split
    · rw [List.pairwise_append]
      refine ⟨ih, List.pairwise_singleton _ _, fun a ha b hb => ?_⟩
      rw [List.mem_singleton.1 hb]; exact skipTo_mem l x k a ha
    · exact ih
end Go.Cg
