/- A slice in a variable that a closure has caught: its cell, and its row that the call has made; iterators. -/
import Derived.Test.YtcnhlogkhnoacaaGreatDoorWordz
import Derived.OneCell
import Derived.Shelf.Small.Utf8
namespace Go.Cg
open Go.RowKit Go.Lib

/-- block B: the variable (a slice of type S); its row: elements of type E, each 'size' cells, in a block above B -/
def Acc (S E : TypeId) (size B : Nat) (w : World) (n : Nat) (xs : List Value) : Prop :=
  ∃ v, w.heap[B]? = some (.cells #[v] S (0, 0)) ∧ w.ownsRow (B + 1) E size v n xs
/-- all iterators over strings stand as they stood -/
def Iters (w w' : World) : Prop := ∀ (k : Nat) (s : ByteArray) (pos : Nat), w.heap[k]? = some (.stringIter s pos) → w'.heap[k]? = some (.stringIter s pos)
theorem Iters.refl (w : World) : Iters w w := fun _ _ _ h => h
theorem Iters.trans {a b c : World} (h : Iters a b) (k : Iters b c) : Iters a c := fun i s p hi => k i s p (h i s p hi)
theorem Iters.of_ext {w w' : World} (h : Ext w w') : Iters w w' := fun k _ _ hk => (Below.block h k (Array.getElem?_eq_some_iff.1 hk).1).trans hk
theorem Acc.lt {S E : TypeId} {size B : Nat} {w : World} {n : Nat} {xs : List Value} (h : Acc S E size B w n xs) : B < w.heap.size := by
  obtain ⟨v, hv, _⟩ := h; exact (Array.getElem?_eq_some_iff.1 hv).1
theorem Acc.ext {S E : TypeId} {size B : Nat} {w w' : World} {n : Nat} {xs : List Value} (h : Acc S E size B w n xs) (hx : Ext w w') : Acc S E size B w' n xs := by
  have hl := h.lt
  obtain ⟨v, hv, ho⟩ := h
  exact ⟨v, (Below.block hx B hl).trans hv, ownsRow_ext ho hx⟩
theorem Acc.iterAt {S E : TypeId} {size B : Nat} {w : World} {n : Nat} {xs : List Value} (h : Acc S E size B w n xs) {k : Nat} {s : ByteArray} {pos : Nat} (hk : w.heap[k]? = some (.stringIter s pos)) (pos' : Nat) :
    Acc S E size B (w.iterAt k s pos') n xs := by
  obtain ⟨v, hb, hown⟩ := h
  have hkb : B ≠ k := by
    intro e1; rw [e1, hk] at hb; cases hb
  refine ⟨v, (iterAt_other w k B s pos' hkb).trans hb, ⟨hown.1, ?_⟩⟩
  rcases hown.2 with hn | ⟨g, cap, cur, hv, hbg, hg, rest⟩
  · exact .inl hn
  · have hkg : g ≠ k := by
      intro e1; rw [e1, hk] at hg; cases hg
    exact .inr ⟨g, cap, cur, hv, hbg, (iterAt_other w k g s pos' hkg).trans hg, rest⟩
theorem heap_cell0 {w : World} {B : Nat} {v : Value} {S : TypeId} (h : w.heap[B]? = some (.cells #[v] S (0, 0))) : w.cell? ⟨B, 0, none⟩ = some v ∧ w.frozen? ⟨B, 0, none⟩ = false ∧ w.shape? B = some (S, 1) := by
  refine ⟨?_, ?_, ?_⟩
  · simp [World.cell?, h]
  · simp [World.frozen?, h]
  · simp [World.shape?, h]
/-- a row with more in it, laid into the variable -/
theorem Acc.stored {S E : TypeId} {size B : Nat} {w w1 : World} {v v' : Value} {n m : Nat} {xs ys : List Value} (hv : w.heap[B]? = some (.cells #[v] S (0, 0))) (ho : w.ownsRow (B + 1) E size v n xs) (hg : w.grownBy w1 v.ownBlock) (ho' : w1.ownsRow (B + 1) E size v' m ys) :
    Acc S E size B (w1.setCell ⟨B, 0, none⟩ v') m ys ∧ Iters w (w1.setCell ⟨B, 0, none⟩ v') := by
  have hB : B < w.heap.size := (Array.getElem?_eq_some_iff.1 hv).1
  have hne : ∀ g, v.ownBlock = some g → B + 1 ≤ g ∧ ∃ cur, w.heap[g]? = some (.cells cur E (0, 0)) := by
    intro g hgk
    rcases ho.2 with ⟨rfl, _⟩ | ⟨g', cap, cur, rfl, hb, hgc, _⟩
    · cases hgk
    · cases hgk; exact ⟨hb, cur, hgc⟩
  have hv1 : w1.heap[B]? = some (.cells #[v] S (0, 0)) := (hg.block B hB (fun e => by have := (hne B e.symm).1; omega)).trans hv
  refine ⟨⟨v', one_setCell hv1, ⟨ho'.1, ?_⟩⟩, ?_⟩
  · rcases ho'.2 with hn | ⟨g, cap, cur, hv', hbg, hgc, rest⟩
    · exact .inl hn
    · exact .inr ⟨g, cap, cur, hv', hbg, (Below.heap_setCell w1 ⟨B, 0, none⟩ v' g (by show g ≠ B; omega)).trans hgc, rest⟩
  · intro k s pos hk
    have hk0 : k < w.heap.size := (Array.getElem?_eq_some_iff.1 hk).1
    have hkB : k ≠ B := fun e => by rw [e, hv] at hk; cases hk
    rw [Below.heap_setCell w1 ⟨B, 0, none⟩ v' k hkB]
    refine (hg.block k hk0 fun e => ?_).trans hk
    obtain ⟨_, cur, hc⟩ := hne k e.symm
    rw [hk] at hc; cases hc
theorem Ext.iterAt {a w : World} (h : Ext a w) {k : Nat} (hk : a.heap.size ≤ k) (s : ByteArray) (pos : Nat) : Ext a (w.iterAt k s pos) := below_iterAt h hk s pos

/-- the place of a text's j-th piece -/
def placeAt (s : ByteArray) : Nat → Nat
  | 0 => 0
  | j + 1 => placeAt s j + (Utf8.decode s (placeAt s j)).2
def pieceCells (s : ByteArray) (pos : Nat) : List Value :=
  [.int .i32 (runeAt s pos), .int .i64 pos, .int .i64 (if badAt s pos then 1 else Lib.runeLen (runeAt s pos)), .bool (badAt s pos)]
def pcells (s : ByteArray) : Nat → List Value
  | 0 => []
  | n + 1 => pcells s n ++ pieceCells s (placeAt s n)
theorem pcells_len (s : ByteArray) : ∀ n, (pcells s n).length = n * 4
  | 0 => rfl
  | n + 1 => by rw [pcells, List.length_append, pcells_len s n]; simp [pieceCells]; omega
theorem pcells_at (s : ByteArray) (i : Nat) (hi : i < 4) : ∀ n j, j < n → (pcells s n)[j * 4 + i]? = (pieceCells s (placeAt s j))[i]?
  | 0, j, h => by omega
  | n + 1, j, h => by
    rw [pcells]
    rcases Nat.lt_or_eq_of_le (Nat.le_of_lt_succ h) with h' | rfl
    · rw [List.getElem?_append_left (by rw [pcells_len]; omega)]; exact pcells_at s i hi n j h'
    · rw [List.getElem?_append_right (by rw [pcells_len]; omega), pcells_len]; congr 1; omega
theorem placeAt_ge (s : ByteArray) : ∀ n, (∀ j, j < n → placeAt s j < s.size) → n ≤ placeAt s n
  | 0, _ => Nat.zero_le _
  | n + 1, h => by
    have := placeAt_ge s n (fun j hj => h j (by omega))
    have := width_pos s (placeAt s n) (h n (by omega))
    rw [placeAt]; omega
end Go.Cg
