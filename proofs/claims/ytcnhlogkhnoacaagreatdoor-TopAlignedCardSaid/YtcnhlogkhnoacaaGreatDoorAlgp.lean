/- Plain: rows of pairs of letters in memory. -/
import Derived.Test.YtcnhlogkhnoacaaGreatDoorOwnb
import Derived.Test.YtcnhlogkhnoacaaGreatDoorRadz
namespace Go.Cg
open Go.RowKit Go.Lib
/-- an alignment's pair i -/
def pA (l : List (Int × Int)) (i : Nat) : Int := (l.getD i (0, 0)).1
def pB (l : List (Int × Int)) (i : Nat) : Int := (l.getD i (0, 0)).2
theorem pA_eq {l : List (Int × Int)} {i : Nat} (h : i < l.length) : pA l i = l[i].1 := by simp [pA, List.getD, h]
theorem pB_eq {l : List (Int × Int)} {i : Nat} (h : i < l.length) : pB l i = l[i].2 := by simp [pB, List.getD, h]
/-- the cells of a row of pairs -/
def pairRow (l : List (Int × Int)) : List Value := l.flatMap fun p => [.int .i32 p.1, .int .i32 p.2]
theorem pairRow_at : ∀ (l : List (Int × Int)) (j : Nat), j < l.length * 2 → (pairRow l)[j]? = some (.int .i32 (if j % 2 = 0 then pA l (j / 2) else pB l (j / 2)))
  | [], j, h => by simp at h
  | x :: l, j, h => by
    have e : pairRow (x :: l) = .int .i32 x.1 :: .int .i32 x.2 :: pairRow l := rfl
    rw [e]
    match j, h with
    | 0, _ => rfl
    | 1, _ => rfl
    | j + 2, h =>
      have h2 : j < l.length * 2 := by simp only [List.length_cons] at h; omega
      have ih := pairRow_at l j h2
      simp only [List.getElem?_cons_succ]
      rw [ih, show (j + 2) % 2 = j % 2 by omega, show (j + 2) / 2 = j / 2 + 1 by omega]
      rfl
theorem pairRow_append (a b : List (Int × Int)) : pairRow (a ++ b) = pairRow a ++ pairRow b := by unfold pairRow; rw [List.flatMap_append]
theorem pairRow_len : ∀ l : List (Int × Int), (pairRow l).length = l.length * 2
  | [] => rfl
  | x :: l => by
    have e : pairRow (x :: l) = .int .i32 x.1 :: .int .i32 x.2 :: pairRow l := rfl
    rw [e, List.length_cons, List.length_cons, pairRow_len l, List.length_cons]; omega
theorem pairRow_one (l : List (Int × Int)) : ∀ u ∈ pairRow l, u.oneCell' = true := by
  intro u hu
  obtain ⟨x, _, h⟩ := List.mem_flatMap.1 hu
  simp only [List.mem_cons, List.not_mem_nil, or_false] at h
  rcases h with rfl | rfl
  · rfl
  · rfl
/-- a row of pairs in memory -/
structure PairsAt (w : World) (p : Option Addr) (l : List (Int × Int)) : Prop where
  reads : Reads w p (l.length * 2) fun j => .int .i32 (if j % 2 = 0 then pA l (j / 2) else pB l (j / 2))
  big : l.length ≤ 35184372088832
  wf : ∀ i, i < l.length → (-2147483648 ≤ pA l i ∧ pA l i ≤ 2147483647) ∧ -2147483648 ≤ pB l i ∧ pB l i ≤ 2147483647
theorem PairsAt.mono {w w' : World} {p : Option Addr} {l : List (Int × Int)} (h : PairsAt w p l) (hx : Ext w w') : PairsAt w' p l := ⟨h.reads.mono hx, h.big, h.wf⟩
theorem PairsAt.cells {w : World} {p : Option Addr} {l : List (Int × Int)} (h : PairsAt w p l) {i : Nat} (hi : i < l.length) :
    ∃ b off, p = some ⟨b, off, none⟩ ∧ b < w.heap.size ∧ w.cell? ⟨b, off + i * 2, none⟩ = some (.int .i32 (pA l i)) ∧ w.cell? ⟨b, off + i * 2 + 1, none⟩ = some (.int .i32 (pB l i)) := by
  obtain ⟨b, off, e, hb, hc⟩ := h.reads.cells_ (j := i * 2) (by omega)
  refine ⟨b, off, e, hb, ?_, ?_⟩
  · rw [hc (i * 2) (by omega), if_pos (by omega), show i * 2 / 2 = i by omega]
  · rw [Nat.add_assoc, hc (i * 2 + 1) (by omega), if_neg (by omega), show (i * 2 + 1) / 2 = i by omega]
theorem pairs_news {w : World} {p : Option Addr} {l : List (Int × Int)} (h : PairsAt w p l) : l.length ≠ 0 → ∃ ad, p = some ad ∧ ∀ j u, (pairRow l)[j]? = some u → w.cell? (ad.add j) = some u := by
  intro hn
  obtain ⟨b, off, e, hb, hc⟩ := h.reads.cells_ (j := 0) (by omega)
  refine ⟨⟨b, off, none⟩, e, fun j u hju => ?_⟩
  have hj : j < l.length * 2 := by
    have := (List.getElem?_eq_some_iff.1 hju).1
    rwa [pairRow_len] at this
  rw [pairRow_at l j hj] at hju
  rw [← hju]
  have h3 := hc j hj
  by_cases h0 : j = 0
  · subst h0; simpa [Addr.add] using h3
  · simpa [Addr.add, h0] using h3
/-- a new row of pairs, in memory from block B on -/
def OwnPairs (T B : Nat) (w : World) (p : Option Addr) (c : Nat) (l : List (Int × Int)) : Prop :=
  w.ownsRow B T 2 (.slice p l.length c) l.length (pairRow l) ∧ l.length ≤ 35184372088832 ∧ ∀ i, i < l.length → (-2147483648 ≤ pA l i ∧ pA l i ≤ 2147483647) ∧ -2147483648 ≤ pB l i ∧ pB l i ≤ 2147483647
theorem OwnPairs.at_ {T B : Nat} {w : World} {p : Option Addr} {c : Nat} {l : List (Int × Int)} (h : OwnPairs T B w p c l) : PairsAt w p l := by
  refine ⟨?_, h.2.1, h.2.2⟩
  exact ownsRow_reads h.1 (fun j hj => pairRow_at l j hj)
theorem OwnPairs.ext {T B : Nat} {w w' : World} {p : Option Addr} {c : Nat} {l : List (Int × Int)} (h : OwnPairs T B w p c l) (hx : Ext w w') : OwnPairs T B w' p c l := ⟨ownsRow_ext h.1 hx, h.2⟩
theorem mem_pairs {l : List (Int × Int)} {q : Int → Prop} (h : ∀ p ∈ l, q p.1 ∧ q p.2) : ∀ i, i < l.length → q (pA l i) ∧ q (pB l i) := fun i hi => by rw [pA_eq hi, pB_eq hi]; exact h _ (List.getElem_mem hi)
theorem two_cells' (w : World) (v u : Value) (T : TypeId) : ∀ j x, [v, u][j]? = some x → (w.alloc (.cells #[v, u] T (0, 0))).cell? ((⟨w.heap.size, 0, none⟩ : Addr).add j) = some x := by
  intro j x h
  match j with
  | 0 => simp at h; subst h; exact (Ext.refl (w.alloc (.cells #[v, u] T (0, 0)))).cell0 0
  | 1 => simp at h; subst h; exact (Ext.refl (w.alloc (.cells #[v, u] T (0, 0)))).cell0 1
  | _ + 2 => simp at h
end Go.Cg
