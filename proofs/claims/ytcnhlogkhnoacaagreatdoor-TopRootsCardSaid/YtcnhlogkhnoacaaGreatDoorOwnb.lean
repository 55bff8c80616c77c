/- Rows that a call makes by append: kept while memory only gains blocks; read as rows of runes. -/
import Derived.Test.YtcnhlogkhnoacaaGreatDoorRegx
namespace Go.Cg
open Go.RowKit

theorem ownsRow_ext {w w' : World} {B : Nat} {e : TypeId} {size : Nat} {v : Value} {n : Nat} {xs : List Value} (h : w.ownsRow B e size v n xs) (hx : Ext w w') : w'.ownsRow B e size v n xs := by
  refine ⟨h.1, ?_⟩
  rcases h.2 with hn | ⟨g, cap, cur, rfl, hb, hg, r⟩
  · exact .inl hn
  · exact .inr ⟨g, cap, cur, rfl, hb, (Below.block hx g (Array.getElem?_eq_some_iff.1 hg).1).trans hg, r⟩
theorem ownsRow_base {w : World} {B B' : Nat} {e : TypeId} {size : Nat} {v : Value} {n : Nat} {xs : List Value} (h : w.ownsRow B e size v n xs) (hB : B' ≤ B) : w.ownsRow B' e size v n xs := by
  refine ⟨h.1, ?_⟩
  rcases h.2 with hn | ⟨g, cap, cur, rfl, hb, hg, r⟩
  · exact .inl hn
  · exact .inr ⟨g, cap, cur, rfl, Nat.le_trans hB hb, hg, r⟩
theorem ownsRow_slice {w : World} {B : Nat} {e : TypeId} {size : Nat} {v : Value} {n : Nat} {xs : List Value} (h : w.ownsRow B e size v n xs) : ∃ p c, v = .slice p n c := by
  rcases h.2 with ⟨rfl, rfl⟩ | ⟨g, cap, cur, rfl, _⟩
  · exact ⟨_, _, rfl⟩
  · exact ⟨_, _, rfl⟩
/-- the row as a row that is read -/
theorem ownsRow_reads {w : World} {B : Nat} {e : TypeId} {size : Nat} {p : Option Addr} {c n : Nat} {xs : List Value} (h : w.ownsRow B e size (.slice p n c) n xs) {f : Nat → Value} (hf : ∀ j, j < n * size → xs[j]? = some (f j)) : Reads w p (n * size) f := by
  rcases h.2 with ⟨_, rfl⟩ | ⟨g, cap, cur, hv, hb, hg, hn, hc, hs, ht⟩
  · exact .inl (by omega)
  · simp only [Value.slice.injEq, true_and] at hv
    obtain ⟨rfl, rfl⟩ := hv
    refine .inr ⟨g, 0, rfl, (Array.getElem?_eq_some_iff.1 hg).1, fun j hj => ?_⟩
    rw [Nat.zero_add]
    have h2 : w.ownsRow B e size (.slice (some ⟨g, 0, none⟩) n c) n xs := h
    rw [h2.cellAt j hj]; exact hf j hj

theorem Ext.append {a w w' : World} {B : Nat} {e : TypeId} {size : Nat} {v : Value} {n : Nat} {xs : List Value} (h : Ext a w) (ho : w.ownsRow B e size v n xs) (hg : w.grownBy w' v.ownBlock) (hB : a.heap.size ≤ B) : Ext a w' := by
  refine h.grown hg fun k hk => ?_
  rcases ho.2 with ⟨rfl, _⟩ | ⟨g, cap, cur, rfl, hb, _⟩
  · cases hk
  · cases hk; exact Nat.le_trans hB hb
theorem size_alloc (w : World) (o : Obj) : (w.alloc o).heap.size = w.heap.size + 1 := by unfold World.alloc; exact Array.size_push ..
theorem one_cell (w : World) (v : Value) (T : TypeId) : ∀ j u, [v][j]? = some u → (w.alloc (.cells #[v] T (0, 0))).cell? ((⟨w.heap.size, 0, none⟩ : Addr).add j) = some u := by
  intro j u h
  match j with
  | 0 =>
    simp at h; subst h
    exact (Ext.refl (w.alloc (.cells #[v] T (0, 0)))).cell0 0
  | _ + 1 => simp at h

/-- a new row of runes, in memory from block B on -/
def OwnRunes (T B : Nat) (w : World) (p : Option Addr) (c : Nat) (l : List Int) : Prop :=
  w.ownsRow B T 1 (.slice p l.length c) l.length (l.map (Value.int .i32)) ∧ l.length ≤ 35184372088832 ∧ ∀ i, i < l.length → -2147483648 ≤ rn l i ∧ rn l i ≤ 2147483647
theorem OwnRunes.at_ {T B : Nat} {w : World} {p : Option Addr} {c : Nat} {l : List Int} (h : OwnRunes T B w p c l) : RunesAt w p l := by
  refine ⟨?_, h.2.1, h.2.2⟩
  have := ownsRow_reads h.1 (f := fun j => .int .i32 (rn l j)) (fun j hj => by
    have hj' : j < l.length := by omega
    rw [List.getElem?_map, List.getElem?_eq_getElem hj', rn_eq hj']; rfl)
  simpa using this
theorem OwnRunes.ext {T B : Nat} {w w' : World} {p : Option Addr} {c : Nat} {l : List Int} (h : OwnRunes T B w p c l) (hx : Ext w w') : OwnRunes T B w' p c l := ⟨ownsRow_ext h.1 hx, h.2⟩
theorem OwnRunes.nil (T B : Nat) (w : World) : OwnRunes T B w none 0 [] := ⟨World.ownsRow_nil w B T 1, by simp, fun i hi => absurd hi (by simp)⟩
theorem mem_rn {l : List Int} {q : Int → Prop} (h : ∀ r ∈ l, q r) : ∀ i, i < l.length → q (rn l i) := fun i hi => by rw [rn_eq hi]; exact h _ (List.getElem_mem hi)
end Go.Cg
