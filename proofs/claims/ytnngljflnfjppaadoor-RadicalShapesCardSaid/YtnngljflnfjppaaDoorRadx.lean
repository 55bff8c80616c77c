/- Rows of shapes that the law makes; the law's guard. -/
import Derived.Test.YtnngljflnfjppaaDoorRadt
namespace Go.Cg
open Go.RowKit
/-- the cells of a row of shapes -/
def shapeRow (L : List (ByteArray × ByteArray)) : List Value := L.flatMap fun s => [.string s.1, .string s.2]
theorem shapeRow_at : ∀ (L : List (ByteArray × ByteArray)) (j : Nat), j < L.length * 2 → (shapeRow L)[j]? = some (if j % 2 = 0 then .string (sName L (j / 2)) else .string (sForm L (j / 2)))
  | [], j, h => by simp at h
  | x :: L, j, h => by
    have e : shapeRow (x :: L) = .string x.1 :: .string x.2 :: shapeRow L := rfl
    rw [e]
    match j, h with
    | 0, _ => rfl
    | 1, _ => rfl
    | j + 2, h =>
      have h2 : j < L.length * 2 := by simp only [List.length_cons] at h; omega
      have ih := shapeRow_at L j h2
      simp only [List.getElem?_cons_succ]
      rw [ih, show (j + 2) % 2 = j % 2 by omega, show (j + 2) / 2 = j / 2 + 1 by omega]
      rfl
theorem shapeRow_append (a b : List (ByteArray × ByteArray)) : shapeRow (a ++ b) = shapeRow a ++ shapeRow b := by unfold shapeRow; rw [List.flatMap_append]
theorem shapeRow_len : ∀ L : List (ByteArray × ByteArray), (shapeRow L).length = L.length * 2
  | [] => rfl
  | x :: L => by
    have e : shapeRow (x :: L) = .string x.1 :: .string x.2 :: shapeRow L := rfl
    rw [e, List.length_cons, List.length_cons, shapeRow_len L, List.length_cons]; omega
theorem shapeRow_one (L : List (ByteArray × ByteArray)) : ∀ u ∈ shapeRow L, u.oneCell' = true := by
  intro u hu
  obtain ⟨x, _, h⟩ := List.mem_flatMap.1 hu
  simp only [List.mem_cons, List.not_mem_nil, or_false] at h
  rcases h with rfl | rfl
  · rfl
  · rfl
theorem shapes_news {w : World} {p : Option Addr} {L : List (ByteArray × ByteArray)} (h : ShapesAt w p L) : L.length ≠ 0 → ∃ ad, p = some ad ∧ ∀ j u, (shapeRow L)[j]? = some u → w.cell? (ad.add j) = some u := by
  intro hn
  obtain ⟨b, off, e, hb, hc⟩ := h.reads.cells_ (j := 0) (by omega)
  refine ⟨⟨b, off, none⟩, e, fun j u hju => ?_⟩
  have hj : j < L.length * 2 := by
    have := (List.getElem?_eq_some_iff.1 hju).1
    rwa [shapeRow_len] at this
  rw [shapeRow_at L j hj] at hju
  rw [← hju]
  have h3 := hc j hj
  by_cases h0 : j = 0
  · subst h0; simpa [Addr.add] using h3
  · simpa [Addr.add, h0] using h3
theorem shapes_own {w : World} {B T g c : Nat} {L : List (ByteArray × ByteArray)} {x y : Value} (h : w.ownsRow B T 2 (.slice (some ⟨g, 0, none⟩) (L.length + 1) c) (L.length + 1) (shapeRow L ++ [x, y])) (hb : L.length ≤ 140737488351232) (hs : ∀ i, i < L.length → (sName L i).size ≤ 140737488351232 ∧ (sForm L i).size ≤ 140737488351232) :
    ShapesAt w (some ⟨g, 0, none⟩) L ∧ w.cell? ⟨g, L.length * 2, none⟩ = some x ∧ w.cell? ⟨g, L.length * 2 + 1, none⟩ = some y ∧ g < w.heap.size := by
  have hlt := (h.lt g rfl).2
  have hl := shapeRow_len L
  refine ⟨⟨?_, hb, hs⟩, ?_, ?_, hlt⟩
  · refine .inr ⟨g, 0, rfl, hlt, fun j hj => ?_⟩
    rw [Nat.zero_add, h.cellAt j (by omega), List.getElem?_append_left (by omega)]
    exact shapeRow_at L j hj
  · rw [h.cellAt _ (by omega), List.getElem?_append_right (by omega), hl, Nat.sub_self]; rfl
  · rw [h.cellAt _ (by omega), List.getElem?_append_right (by omega), hl, show L.length * 2 + 1 - L.length * 2 = 1 by omega]; rfl
theorem own_ge {w : World} {B : Nat} {e : TypeId} {k n g : Nat} {v : Value} {xs : List Value} (h : w.ownsRow B e k v n xs) (hg : g < B) : v.ownBlock ≠ some g := by
  rcases h.2 with ⟨rfl, _⟩ | ⟨g', cap, cur, rfl, hb, _⟩
  · intro h; cases h
  · intro h
    simp only [Value.ownBlock, Option.some.injEq] at h
    omega
/-- two new cells -/
theorem two_cells (w : World) (v u : Value) (T : TypeId) : ∀ j x, [v, u][j]? = some x → (w.alloc (.cells #[v, u] T (0, 0))).cell? ((⟨w.heap.size, 0, none⟩ : Addr).add j) = some x := by
  intro j x h
  match j with
  | 0 => simp at h; subst h; exact (Ext.refl (w.alloc (.cells #[v, u] T (0, 0)))).cell0 0
  | 1 => simp at h; subst h; exact (Ext.refl (w.alloc (.cells #[v, u] T (0, 0)))).cell0 1
  | _ + 2 => simp at h
end Go.Cg
namespace Go.Proofs.YtnngljflnfjppaaDoor
open Go.RowKit Go.Cg Go.Shelf Go.Maps

theorem allR_len (A : Alpha) (s : ByteArray) (L : List (ByteArray × ByteArray)) : (allR A s L).length ≤ L.length ∧ (allI A s L).length = (allR A s L).length := by
  rw [allR_eq, allI_eq]
  split
  · exact rootsTo_len A _ L L.length
  · exact ⟨Nat.zero_le _, rfl⟩
theorem infoSh : (Tryd.prog.info? 41).map (fun i => (i.zero, i.size, i.bytes)) = some (some (.agg #[.string ⟨#[]⟩, .string ⟨#[]⟩]), 2, 32) := by kernel_rfl
/-- some bool is returned: no, only for a row that isn't long -/
def BoolOf (n : Nat) (e : Ending) : Prop := ∃ B, e = .returned (.bool B) ∧ (B = false → n ≤ 5000)
set_option maxHeartbeats 1000000 in
theorem longL_any (fp lp p : Option Addr) (fc lc n c : Nat) (A : Alpha) (s : ByteArray) (hn : n ≤ 140737488351232) (hs : s.size ≤ 140737488351232) (w : World) (hA : AlphaAt w fp lp A) :
    Calls Tryd.prog 12 #[.agg #[.slice fp A.feats.length fc, .slice lp A.lets.length lc], .string s, .slice p n c] w fun e w' => BoolOf n e ∧ Ext w w' := by
  have hfb := hA.fbig
  have hb := hA.lbig
  go_enter Tryd.func12, Tryd.ntmps12
  go_wp2
  all_goals go_ret
  all_goals exact ⟨⟨_, rfl, fun h => by first | (exfalso; exact Bool.noConfusion h) | (simp at h; omega)⟩, (Ext.refl _).alloc _⟩

end Go.Proofs.YtnngljflnfjppaaDoor
