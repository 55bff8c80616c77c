/- Doubles as plain functions: squares, runs, periods; rows of runes cut and turned to text. -/
import Derived.Test.YtcnhlogkhnoacaaGreatDoorCodez
namespace Go.Cg
open Go.RowKit Go.Lib

def cutL (l : List Int) (i j : Nat) : List Int := (l.drop i).take (j - i)
theorem cutL_length (l : List Int) (i j : Nat) (h : j ≤ l.length) : (cutL l i j).length = j - i := by unfold cutL; rw [List.length_take, List.length_drop]; omega
def sq (l : List Int) : Bool := decide (l.length % 2 = 0 ∧ l.take (l.length / 2) = l.drop (l.length / 2))
theorem sq_true {l : List Int} (h1 : l.length % 2 = 0) (h2 : l.take (l.length / 2) = l.drop (l.length / 2)) : sq l = true := decide_eq_true ⟨h1, h2⟩
theorem sq_iff {l : List Int} : sq l = true ↔ l.length % 2 = 0 ∧ l.take (l.length / 2) = l.drop (l.length / 2) := by unfold sq; exact decide_eq_true_iff
theorem sq_odd {l : List Int} (h : l.length % 2 ≠ 0) : sq l = false := by unfold sq; exact decide_eq_false fun c => h c.1
/-- the end of the last square that begins at i, of those that end at k or ahead of it; 0: there is none -/
def lastSq (l : List Int) (i : Nat) : Nat → Nat
  | 0 => 0
  | k + 1 => if i + 2 ≤ k + 1 ∧ sq (cutL l i (k + 1)) = true then k + 1 else lastSq l i k
theorem lastSq_yes {l : List Int} {i k : Nat} (h : i + 2 ≤ k) (hs : sq (cutL l i k) = true) : lastSq l i k = k := by
  match k, h, hs with
  | k + 1, h, hs => rw [lastSq, if_pos ⟨h, hs⟩]
theorem lastSq_no {l : List Int} {i k : Nat} (hs : sq (cutL l i (k + 1)) = false) : lastSq l i (k + 1) = lastSq l i k := by
  rw [lastSq, if_neg fun h => by rw [hs] at h; exact absurd h.2 (by decide)]
theorem lastSq_low {l : List Int} {i : Nat} : ∀ k, k < i + 2 → lastSq l i k = 0
  | 0, _ => rfl
  | k + 1, h => by rw [lastSq, if_neg (by omega), lastSq_low k (by omega)]
theorem lastSq_le (l : List Int) (i : Nat) : ∀ k, lastSq l i k ≤ k
  | 0 => Nat.le_refl _
  | k + 1 => by
    rw [lastSq]
    split
    · exact Nat.le_refl _
    · exact Nat.le_succ_of_le (lastSq_le l i k)
theorem lastSq_pos (l : List Int) (i : Nat) : ∀ k, lastSq l i k ≠ 0 → i + 2 ≤ lastSq l i k ∧ sq (cutL l i (lastSq l i k)) = true
  | 0, h => absurd rfl h
  | k + 1, h => by
    rw [lastSq] at h ⊢
    split
    · rename_i hc; exact hc
    · rename_i hc; rw [if_neg hc] at h; exact lastSq_pos l i k h
/-- only even lengths are asked: one half less -/
theorem lastSq_half {l : List Int} {i h : Nat} (hh : 0 < h) (hl : i + 2 * h ≤ l.length) (hs : sq (cutL l i (i + 2 * h)) = false) : lastSq l i (i + 2 * h) = lastSq l i (i + 2 * (h - 1)) := by
  obtain ⟨g, rfl⟩ : ∃ g, h = g + 1 := ⟨h - 1, by omega⟩
  have e : i + 2 * (g + 1) = (i + 2 * g + 1) + 1 := by omega
  rw [e] at hs ⊢
  rw [lastSq_no hs, lastSq_no (sq_odd (by rw [cutL_length _ _ _ (by omega)]; omega))]
  rfl
theorem lastSq_top {l : List Int} {i : Nat} (hi : i ≤ l.length) : lastSq l i l.length = lastSq l i (i + 2 * ((l.length - i) / 2)) := by
  by_cases e : (l.length - i) % 2 = 0
  · congr 1; omega
  · obtain ⟨g, hg⟩ : ∃ g, l.length = g + 1 := ⟨l.length - 1, by omega⟩
    have hs : sq (cutL l i (g + 1)) = false := sq_odd (by rw [cutL_length _ _ _ (by omega)]; omega)
    have e2 : i + 2 * ((l.length - i) / 2) = g := by omega
    rw [e2]
    rw [hg]
    exact lastSq_no hs

/-- the runs that begin ahead of place k -/
def runsTo (l : List Int) : Nat → List (Nat × Nat)
  | 0 => []
  | k + 1 => if lastSq l k l.length = 0 then runsTo l k else runsTo l k ++ [(k, lastSq l k l.length)]
theorem runsTo_none {l : List Int} {k : Nat} (h : lastSq l k l.length = 0) : runsTo l (k + 1) = runsTo l k := by rw [runsTo, if_pos h]
theorem runsTo_some {l : List Int} {k : Nat} (h : lastSq l k l.length ≠ 0) : runsTo l (k + 1) = runsTo l k ++ [(k, lastSq l k l.length)] := by rw [runsTo, if_neg h]
theorem runsTo_len (l : List Int) : ∀ k, (runsTo l k).length ≤ k
  | 0 => Nat.le_refl _
  | k + 1 => by
    have := runsTo_len l k
    rw [runsTo]; split
    · omega
    · simp; omega
def runsL (l : List Int) : List (Nat × Nat) := runsTo l l.length
theorem runsL_nil : runsL [] = [] := rfl
def spanCells : List (Nat × Nat) → List Value
  | [] => []
  | (a, b) :: r => .int .i64 (a : Nat) :: .int .i64 (b : Nat) :: spanCells r
theorem spanCells_append (a b : List (Nat × Nat)) : spanCells (a ++ b) = spanCells a ++ spanCells b := by
  induction a with
  | nil => rfl
  | cons x a ih => obtain ⟨p, q⟩ := x; simp [spanCells, ih]
theorem spanCells_len (a : List (Nat × Nat)) : (spanCells a).length = 2 * a.length := by
  induction a with
  | nil => rfl
  | cons x a ih => obtain ⟨p, q⟩ := x; simp [spanCells, ih]; omega
theorem spanCells_at : ∀ (a : List (Nat × Nat)) (i : Nat), i < a.length → (spanCells a)[2 * i]? = some (.int .i64 ((a.getD i (0, 0)).1 : Nat)) ∧ (spanCells a)[2 * i + 1]? = some (.int .i64 ((a.getD i (0, 0)).2 : Nat))
  | [], i, h => absurd h (by simp)
  | (p, q) :: a, 0, _ => ⟨rfl, rfl⟩
  | (p, q) :: a, i + 1, h => by
    have := spanCells_at a i (by simpa using h)
    rw [show 2 * (i + 1) = (2 * i) + 1 + 1 by omega]
    simpa [spanCells] using this

/-- does a word go on by p? -/
def perB (l : List Int) (p : Nat) : Bool := decide (l.drop p = l.take (l.length - p))
def periodFrom (l : List Int) : Nat → Nat → Nat
  | 0, _ => l.length
  | f + 1, p => if p < l.length then (if perB l p = true then p else periodFrom l f (p + 1)) else l.length
def periodL (l : List Int) : Nat := if l.length = 0 then 0 else periodFrom l l.length 1
theorem periodFrom_at {l : List Int} {q : Nat} (hq : perB l q = true) (hl : q < l.length) : ∀ (f p : Nat), p ≤ q → q < p + f → (∀ j, p ≤ j → j < q → perB l j = false) → periodFrom l f p = q
  | 0, p, h1, h2, _ => by omega
  | f + 1, p, h1, h2, h3 => by
    rw [periodFrom, if_pos (by omega)]
    by_cases e : p = q
    · subst e; rw [if_pos hq]
    · rw [if_neg (by rw [h3 p (Nat.le_refl _) (by omega)]; decide)]
      exact periodFrom_at hq hl f (p + 1) (by omega) (by omega) fun j hj => h3 j (by omega)
theorem periodFrom_none {l : List Int} : ∀ (f p : Nat), (∀ j, p ≤ j → j < l.length → perB l j = false) → periodFrom l f p = l.length
  | 0, p, _ => rfl
  | f + 1, p, h => by
    rw [periodFrom]
    by_cases e : p < l.length
    · rw [if_pos e, if_neg (by rw [h p (Nat.le_refl _) e]; decide)]
      exact periodFrom_none f (p + 1) fun j hj => h j (by omega)
    · rw [if_neg e]
theorem periodL_at {l : List Int} {q : Nat} (h1 : 1 ≤ q) (hl : q < l.length) (hq : perB l q = true) (h : ∀ j, 1 ≤ j → j < q → perB l j = false) : periodL l = q := by
  unfold periodL
  rw [if_neg (by omega), periodFrom_at hq hl _ _ h1 (by omega) h]
theorem periodL_none {l : List Int} (h : ∀ j, 1 ≤ j → j < l.length → perB l j = false) : periodL l = l.length := by
  unfold periodL
  by_cases e : l.length = 0
  · rw [if_pos e, e]
  · rw [if_neg e, periodFrom_none _ _ h]
theorem perB_all (l : List Int) : perB l l.length = true := by unfold perB; exact decide_eq_true (by simp)
theorem perB_iff {l : List Int} {p : Nat} (hp : p ≤ l.length) : perB l p = true ↔ ∀ i, p ≤ i → i < l.length → rn l i = rn l (i - p) := by
  unfold perB; rw [decide_eq_true_iff]
  constructor
  · intro h i h1 h2
    rw [rn_eq h2, rn_eq (show i - p < l.length by omega)]
    have e := congrArg (fun z => z[i - p]?) h
    rw [List.getElem?_drop, List.getElem?_take, if_pos (by omega), show p + (i - p) = i by omega, List.getElem?_eq_getElem h2, List.getElem?_eq_getElem (show i - p < l.length by omega)] at e
    simpa using e
  · intro h
    apply List.ext_getElem
    · simp
    · intro i h1 h2
      simp at h1
      have := h (p + i) (by omega) (by omega)
      rw [rn_eq (show p + i < l.length by omega), rn_eq (show p + i - p < l.length by omega)] at this
      simp only [List.getElem_drop, List.getElem_take]
      rw [this]; congr 1; omega
/-- the period, told -/
theorem periodL_spec (l : List Int) : perB l (periodL l) = true ∧ periodL l ≤ l.length ∧ (periodL l = 0 ↔ l.length = 0) ∧ ∀ j, 1 ≤ j → j < periodL l → perB l j = false := by
  by_cases h0 : l.length = 0
  · have e : periodL l = 0 := by unfold periodL; rw [if_pos h0]
    rw [e]
    refine ⟨?_, by omega, by omega, fun j h1 h2 => by omega⟩
    have := perB_all l; rwa [h0] at this
  · have key : ∀ (n : Nat), (∃ q, 1 ≤ q ∧ q < n ∧ q < l.length ∧ perB l q = true ∧ ∀ j, 1 ≤ j → j < q → perB l j = false) ∨ ∀ j, 1 ≤ j → j < n → j < l.length → perB l j = false := by
      intro n
      induction n with
      | zero => right; intro j h1 h2; omega
      | succ n ih =>
        rcases ih with ⟨q, a, b, c⟩ | h
        · exact .inl ⟨q, a, by omega, c⟩
        · by_cases hn : 1 ≤ n ∧ n < l.length ∧ perB l n = true
          · exact .inl ⟨n, hn.1, by omega, hn.2.1, hn.2.2, fun j h1 h2 => h j h1 h2 (by omega)⟩
          · right; intro j h1 h2 h3
            by_cases e : j = n
            · subst e
              cases hp : perB l j
              · rfl
              · exact absurd ⟨h1, h3, hp⟩ hn
            · exact h j h1 (by omega) h3
    rcases key l.length with ⟨q, a, _, c, d, e⟩ | h
    · rw [periodL_at a c d e]
      exact ⟨d, by omega, by omega, e⟩
    · have h' := fun j h1 h2 => h j h1 h2 h2
      rw [periodL_none h']
      exact ⟨perB_all l, Nat.le_refl _, by omega, h'⟩

/-! ### rows of runes, cut and turned to text -/
theorem cutL_rn {l : List Int} {i j k : Nat} (_hj : j ≤ l.length) (hk : k < j - i) : rn (cutL l i j) k = rn l (i + k) := by
  unfold rn cutL
  rw [List.getD_eq_getElem?_getD, List.getD_eq_getElem?_getD, List.getElem?_take, if_pos hk, List.getElem?_drop]
/-- a row that is cut out of a row -/
theorem RunesAt.cut {w : World} {b off : Nat} {l : List Int} (h : RunesAt w (some ⟨b, off, none⟩) l) (i j : Nat) (hj : j ≤ l.length) : RunesAt w (some ⟨b, off + i, none⟩) (cutL l i j) := by
  have hlen := cutL_length l i j hj
  refine ⟨?_, by have := h.big; omega, fun k hk => ?_⟩
  · by_cases hz : j - i = 0
    · exact .inl (by omega)
    · refine .inr ⟨b, off + i, rfl, (h.cell (i := i) (by omega)).1, fun k hk => ?_⟩
      have e := cutL_rn (l := l) (i := i) hj (show k < j - i by omega)
      show w.cell? ⟨b, off + i + k, none⟩ = some (.int .i32 (rn (cutL l i j) k))
      rw [e, Nat.add_assoc]
      exact (h.cell (by omega)).2
  · rw [cutL_rn hj (by omega)]; exact h.wf _ (by omega)
theorem RunesAt.none_ {w : World} {l : List Int} (h : RunesAt w none l) : l = [] := by
  rcases h.reads with h0 | ⟨b, off, hp, _⟩
  · exact List.length_eq_zero_iff.1 h0
  · cases hp
theorem RunesAt.nil (w : World) (p : Option Addr) : RunesAt w p [] := ⟨.inl rfl, by simp, fun i hi => absurd hi (by simp)⟩
theorem RunesAt.take {w : World} {p : Option Addr} {l : List Int} (h : RunesAt w p l) (n : Nat) : RunesAt w p (l.take n) := by
  refine ⟨?_, by have := h.big; rw [List.length_take]; omega, fun k hk => ?_⟩
  · rcases h.reads with h0 | ⟨b, off, hp, hlt, hc⟩
    · exact .inl (by rw [List.length_take]; omega)
    · refine .inr ⟨b, off, hp, hlt, fun k hk => ?_⟩
      rw [List.length_take] at hk
      rw [hc k (by omega)]
      show some (Value.int .i32 (rn l k)) = some (Value.int .i32 (rn (l.take n) k))
      rw [rn_eq (show k < l.length by omega), rn_eq (by rw [List.length_take]; omega), List.getElem_take]
  · have hk' := hk
    rw [List.length_take] at hk'
    have := h.wf k (by omega)
    rw [rn_eq hk, List.getElem_take]
    rw [rn_eq (show k < l.length by omega)] at this
    exact this
/-- 'string(l)' -/
theorem RunesAt.text {P : Program} {src dst e : TypeId} {w : World} {p : Option Addr} {l : List Int} (h : RunesAt w p l) (hs : P.underlying src = some (.slice e)) (he : P.underlying e = some (.int .i32)) (hd : P.underlying dst = some .string) (c : Nat) :
    (convert src dst (.slice p l.length c)).run P w = .ok (.string (runesBytes l)) w := by
  match p, h with
  | none, h => rw [h.none_]; exact run_convert_runes_nil w src dst e _ _ hs he hd
  | some a, h =>
    have := run_convert_runes (P := P) w src dst e a l.length c l (Nat.le_refl _) hs he hd (fun j hj => by
      obtain ⟨b, off, hp, _, hc⟩ := h.cells hj
      cases hp
      have e : ((⟨b, off, none⟩ : Addr).add j) = ⟨b, off + j, none⟩ := by simp [Addr.add]
      rw [e]
      exact hc)
    rw [this, List.take_length]
theorem rb_size_le (l : List Int) : (runesBytes l).size ≤ 4 * l.length := runesBytes_size_le l
end Go.Cg
