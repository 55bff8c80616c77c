/- Plain: rows of texts in memory. -/
import Derived.Test.YtcnhlogkhnoacaaGreatDoorOwnb
import Derived.Test.YtcnhlogkhnoacaaGreatDoorRadz
namespace Go.Cg
open Go.RowKit Go.Lib
def txt (L : List ByteArray) (i : Nat) : ByteArray := L.getD i ByteArray.empty
theorem txt_eq {L : List ByteArray} {i : Nat} (h : i < L.length) : txt L i = L[i] := by simp [txt, List.getD, h]
/-- a row of texts in memory -/
structure TextsAt (w : World) (p : Option Addr) (L : List ByteArray) : Prop where
  reads : Reads w p L.length fun j => .string (txt L j)
  big : L.length ≤ 8796093022208
  small : ∀ i, i < L.length → (txt L i).size ≤ 140737488351232
theorem TextsAt.mono {w w' : World} {p : Option Addr} {L : List ByteArray} (h : TextsAt w p L) (hx : Ext w w') : TextsAt w' p L := ⟨h.reads.mono hx, h.big, h.small⟩
theorem TextsAt.cells {w : World} {p : Option Addr} {L : List ByteArray} (h : TextsAt w p L) {i : Nat} (hi : i < L.length) :
    ∃ b off, p = some ⟨b, off, none⟩ ∧ b < w.heap.size ∧ w.cell? ⟨b, off + i, none⟩ = some (.string (txt L i)) := by
  obtain ⟨b, off, e, hb, hc⟩ := h.reads.cells_ (j := i) hi
  exact ⟨b, off, e, hb, hc i hi⟩
def textRow (L : List ByteArray) : List Value := L.map Value.string
theorem textRow_len (L : List ByteArray) : (textRow L).length = L.length := by simp [textRow]
theorem textRow_at {L : List ByteArray} {j : Nat} (h : j < L.length) : (textRow L)[j]? = some (.string (txt L j)) := by
  unfold textRow; rw [List.getElem?_map, List.getElem?_eq_getElem h, txt_eq h]; rfl
theorem textRow_one (L : List ByteArray) : ∀ u ∈ textRow L, u.oneCell' = true := by
  intro u hu
  obtain ⟨x, _, rfl⟩ := List.mem_map.1 hu
  rfl
theorem texts_news {w : World} {p : Option Addr} {L : List ByteArray} (h : TextsAt w p L) : L.length ≠ 0 → ∃ ad, p = some ad ∧ ∀ j u, (textRow L)[j]? = some u → w.cell? (ad.add j) = some u := by
  intro hn
  obtain ⟨b, off, e, hb, hc⟩ := h.reads.cells_ (j := 0) (by omega)
  refine ⟨⟨b, off, none⟩, e, fun j u hju => ?_⟩
  have hj : j < L.length := by
    have := (List.getElem?_eq_some_iff.1 hju).1
    rwa [textRow_len] at this
  rw [textRow_at hj] at hju
  rw [← hju]
  have h3 := hc j hj
  by_cases h0 : j = 0
  · subst h0; simpa [Addr.add] using h3
  · simpa [Addr.add, h0] using h3
theorem texts_own {w : World} {B T c : Nat} {p : Option Addr} {L : List ByteArray} (h : w.ownsRow B T 1 (.slice p L.length c) L.length (textRow L)) (hb : L.length ≤ 8796093022208) (hs : ∀ i, i < L.length → (txt L i).size ≤ 140737488351232) : TextsAt w p L := by
  refine ⟨?_, hb, hs⟩
  have := ownsRow_reads h (f := fun j => .string (txt L j)) (fun j hj => textRow_at (by omega))
  simpa using this
end Go.Cg
