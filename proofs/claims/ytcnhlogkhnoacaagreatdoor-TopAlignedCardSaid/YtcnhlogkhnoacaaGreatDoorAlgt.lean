/- Plain: a table of 65 by 65 costs and numbers in memory. -/
import Derived.Test.YtcnhlogkhnoacaaGreatDoorBasb
import Derived.Laws.Tables
namespace Go.Cg
open Go.RowKit
/-- block g holds a table: its two rows, and what is filled in so far -/
structure TabAt (w : World) (g : Nat) (T : TypeId) (xs ys : Value) (D : Nat → Nat → Prop) (c m : Nat → Nat → Nat) : Prop where
  blk : ∃ C : Array Value, w.heap[g]? = some (.cells C T (0, 0)) ∧ C.size = 8452 ∧ C[0]? = some xs ∧ C[1]? = some ys ∧
    (∀ j, 2 ≤ j → j < 8452 → ∃ n : Nat, C[j]? = some (.int .i64 (n : Int))) ∧
    (∀ i k, D i k → i < 65 → k < 65 → C[2 + i * 65 + k]? = some (.int .i64 (c i k : Nat)) ∧ C[4227 + i * 65 + k]? = some (.int .i64 (m i k : Nat)))
variable {w : World} {g : Nat} {T : TypeId} {xs ys : Value} {D : Nat → Nat → Prop} {c m : Nat → Nat → Nat}
theorem TabAt.cell_ {C : Array Value} (h : w.heap[g]? = some (.cells C T (0, 0))) (j : Nat) : w.cell? ⟨g, j, none⟩ = C[j]? := by simp [World.cell?, h]
theorem TabAt.lt (h : TabAt w g T xs ys D c m) : g < w.heap.size := by
  obtain ⟨C, hC, _⟩ := h.blk
  exact (Array.getElem?_eq_some_iff.1 hC).1
theorem TabAt.froz (h : TabAt w g T xs ys D c m) (j : Nat) : w.frozen? ⟨g, j, none⟩ = false := by
  obtain ⟨C, hC, _⟩ := h.blk
  simp [World.frozen?, hC]
theorem TabAt.left (h : TabAt w g T xs ys D c m) : w.cell? ⟨g, 0, none⟩ = some xs ∧ w.cell? ⟨g, 1, none⟩ = some ys := by
  obtain ⟨C, hC, _, h0, h1, _⟩ := h.blk
  rw [TabAt.cell_ hC, TabAt.cell_ hC]; exact ⟨h0, h1⟩
theorem TabAt.cost (h : TabAt w g T xs ys D c m) {i k : Nat} (hd : D i k) (hi : i < 65) (hk : k < 65) : w.cell? ⟨g, 2 + i * 65 + k, none⟩ = some (.int .i64 (c i k : Nat)) := by
  obtain ⟨C, hC, _, _, _, _, hh⟩ := h.blk
  rw [TabAt.cell_ hC]; exact (hh i k hd hi hk).1
theorem TabAt.many (h : TabAt w g T xs ys D c m) {i k : Nat} (hd : D i k) (hi : i < 65) (hk : k < 65) : w.cell? ⟨g, 4227 + i * 65 + k, none⟩ = some (.int .i64 (m i k : Nat)) := by
  obtain ⟨C, hC, _, _, _, _, hh⟩ := h.blk
  rw [TabAt.cell_ hC]; exact (hh i k hd hi hk).2
theorem TabAt.old (h : TabAt w g T xs ys D c m) {j : Nat} (h2 : 2 ≤ j) (hj : j < 8452) : ∃ n : Nat, w.cell? ⟨g, j, none⟩ = some (.int .i64 (n : Int)) := by
  obtain ⟨C, hC, _, _, _, ho, _⟩ := h.blk
  rw [TabAt.cell_ hC]; exact ho j h2 hj
theorem TabAt.ext {w' : World} (h : TabAt w g T xs ys D c m) (hx : Ext w w') : TabAt w' g T xs ys D c m := by
  have hl := h.lt
  obtain ⟨C, hC, r⟩ := h.blk
  exact ⟨⟨C, (Below.block hx g hl).trans hC, r⟩⟩
theorem TabAt.put (h : TabAt w g T xs ys D c m) {i k : Nat} (hi : i < 65) (hk : k < 65) {a b : Value} (ha : a = .int .i64 (c i k : Nat)) (hb : b = .int .i64 (m i k : Nat)) :
    TabAt ((w.setCell ⟨g, 2 + i * 65 + k, none⟩ a).setCell ⟨g, 4227 + i * 65 + k, none⟩ b) g T xs ys (fun p q => D p q ∨ (p = i ∧ q = k)) c m := by
  subst ha
  subst hb
  obtain ⟨C, hC, hs, h0, h1, ho, hh⟩ := h.blk
  have e1 := heap_setCell_same w g (2 + i * 65 + k) C T (.int .i64 (c i k : Nat)) hC
  have e2 := heap_setCell_same _ g (4227 + i * 65 + k) _ T (.int .i64 (m i k : Nat)) e1
  refine ⟨⟨_, e2, by simpa using hs, ?_, ?_, ?_, ?_⟩⟩
  · rw [Array.getElem?_setIfInBounds_ne (by omega), Array.getElem?_setIfInBounds_ne (by omega)]; exact h0
  · rw [Array.getElem?_setIfInBounds_ne (by omega), Array.getElem?_setIfInBounds_ne (by omega)]; exact h1
  · intro j h2 hj
    by_cases q1 : 4227 + i * 65 + k = j
    · subst q1
      exact ⟨m i k, by rw [Array.getElem?_setIfInBounds_self_of_lt (by simp [hs]; omega)]⟩
    · rw [Array.getElem?_setIfInBounds_ne q1]
      by_cases q2 : 2 + i * 65 + k = j
      · subst q2
        exact ⟨c i k, by rw [Array.getElem?_setIfInBounds_self_of_lt (by omega)]⟩
      · rw [Array.getElem?_setIfInBounds_ne q2]; exact ho j h2 hj
  · intro p q hd hp hq
    by_cases hpq : p = i ∧ q = k
    · obtain ⟨rfl, rfl⟩ := hpq
      constructor
      · rw [Array.getElem?_setIfInBounds_ne (by omega), Array.getElem?_setIfInBounds_self_of_lt (by omega)]
      · rw [Array.getElem?_setIfInBounds_self_of_lt (by simp [hs]; omega)]
    · have hd' := hd.resolve_right hpq
      obtain ⟨r1, r2⟩ := hh p q hd' hp hq
      constructor
      · rw [Array.getElem?_setIfInBounds_ne (by omega), Array.getElem?_setIfInBounds_ne (by omega)]; exact r1
      · rw [Array.getElem?_setIfInBounds_ne (by omega), Array.getElem?_setIfInBounds_ne (by omega)]; exact r2
/-- a new table in which one place is filled in -/
theorem TabAt.new {C : Array Value} {n k : Nat} (hn : n < 65) (hk : k < 65) (hg : w.heap[g]? = some (.cells C T (0, 0))) (hsz : C.size = 8452) (h0 : C[0]? = some xs) (h1 : C[1]? = some ys) (hz : ∀ j, 2 ≤ j → j < 8452 → C[j]? = some (.int .i64 0)) (hc : c n k = 0) (hm : m n k = 1) {b : Value} (hb : b = .int .i64 1) :
    TabAt (w.setCell ⟨g, 4227 + n * 65 + k, none⟩ b) g T xs ys (fun p q => p = n ∧ q = k) c m := by
  subst hb
  have e1 := heap_setCell_same w g (4227 + n * 65 + k) _ T (.int .i64 1) hg
  refine ⟨⟨_, e1, by simpa using hsz, ?_, ?_, ?_, ?_⟩⟩
  · rw [Array.getElem?_setIfInBounds_ne (by omega)]; exact h0
  · rw [Array.getElem?_setIfInBounds_ne (by omega)]; exact h1
  · intro j h2 hj
    by_cases q1 : 4227 + n * 65 + k = j
    · subst q1
      exact ⟨1, by rw [Array.getElem?_setIfInBounds_self_of_lt (by rw [hsz]; omega)]; rfl⟩
    · rw [Array.getElem?_setIfInBounds_ne q1]; exact ⟨0, hz j h2 hj⟩
  · rintro p q ⟨rfl, rfl⟩ hp hq
    constructor
    · rw [Array.getElem?_setIfInBounds_ne (by omega), hz _ (by omega) (by omega), hc]; rfl
    · rw [Array.getElem?_setIfInBounds_self_of_lt (by rw [hsz]; omega), hm]; rfl
theorem TabAt.weak {D' : Nat → Nat → Prop} (h : TabAt w g T xs ys D c m) (hd : ∀ i k, D' i k → D i k) : TabAt w g T xs ys D' c m := by
  obtain ⟨C, a1, a2, a3, a4, a5, a6⟩ := h.blk
  exact ⟨⟨C, a1, a2, a3, a4, a5, fun i k hk => a6 i k (hd i k hk)⟩⟩
end Go.Cg
