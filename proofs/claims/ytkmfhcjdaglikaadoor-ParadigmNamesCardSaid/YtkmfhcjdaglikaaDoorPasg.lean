/- Contracts: cognateref17.Twin, Same. -/
import Derived.Test.YtkmfhcjdaglikaaDoorPamb
import Derived.Test.YtkmfhcjdaglikaaDoorRegt
import Derived.Deep.AppendLies
import Derived.OneCell
namespace Go.Cg
open Go.RowKit Go.Lib
theorem Reads.grown {w w' : World} {row : Option Nat} {p : Option Addr} {k : Nat} {f : Nat → Value} (h : Reads w p k f) (hg : w.grownBy w' row) (hne : ∀ b off, p = some ⟨b, off, none⟩ → some b ≠ row) : Reads w' p k f := by
  rcases h with h | ⟨b, off, hp, hb, hc⟩
  · exact .inl h
  · refine .inr ⟨b, off, hp, Nat.lt_of_lt_of_le hb hg.size, fun j hj => ?_⟩
    have e := hg.block b hb (hne b off hp)
    have h3 := hc j hj
    unfold World.cell? at h3 ⊢
    rw [e]; exact h3
theorem AffsAt.grown {w w' : World} {row : Option Nat} {p : Option Addr} {xs : List Aff} (h : AffsAt w p xs) (hg : w.grownBy w' row) (hne : ∀ b off, p = some ⟨b, off, none⟩ → some b ≠ row) : AffsAt w' p xs := ⟨h.reads.grown hg hne, h.wf, h.big⟩
/-- the cells of the first k cells of a paradigm -/
def parList (cs : List PCell) (g : Nat → Option Addr × Nat) (k : Nat) : List Value := (List.range (k * 2)).map (parCell cs g)
theorem cell_of9 {W : World} {B j : Nat} {cs : Array Value} {t : TypeId} {v : Value} (h : W.heap[B]? = some (.cells cs t (0, 0))) (hv : cs[j]? = some v) : W.cell? ⟨B, j, none⟩ = some v := by
  simp [World.cell?, h, hv]
theorem four_froz9 {w : World} {b : Nat} {cs : Array Value} {T : TypeId} (h : w.heap[b]? = some (.cells cs T (0, 0))) (j : Nat) : w.frozen? ⟨b, j, none⟩ = false := Lib.frozen_of_heap h j
theorem parList_zero (cs : List PCell) (g : Nat → Option Addr × Nat) : parList cs g 0 = [] := rfl
def updG (g : Nat → Option Addr × Nat) (k : Nat) (x : Option Addr × Nat) (j : Nat) : Option Addr × Nat := if j = k then x else g j
theorem parList_succ (cs : List PCell) (g : Nat → Option Addr × Nat) (k : Nat) (x : Option Addr × Nat) : parList cs (updG g k x) (k + 1) = parList cs g k ++ [.int .u64 ((cx cs k).tags : Int), .slice x.1 (cx cs k).affs.length x.2] := by
  unfold parList
  rw [show (k + 1) * 2 = k * 2 + 1 + 1 by omega, List.range_succ, List.range_succ, List.map_append, List.map_append, List.append_assoc]
  congr 1
  · apply List.map_congr_left
    intro j hj
    have hj2 := List.mem_range.1 hj
    unfold parCell updG
    rw [if_neg (show ¬ j / 2 = k by omega)]
  · obtain ⟨h1, h2⟩ := parCell_at cs (updG g k x) k
    simp only [List.map_cons, List.map_nil, h1, h2, List.cons_append, List.nil_append]
    unfold updG
    rw [if_pos rfl]
theorem parList_at {cs : List PCell} {g : Nat → Option Addr × Nat} {k j : Nat} (h : j < k * 2) : (parList cs g k)[j]? = some (parCell cs g j) := by
  unfold parList
  rw [List.getElem?_map, List.getElem?_range h]; rfl
end Go.Cg
namespace Go.Proofs.YtkmfhcjdaglikaaDoor
open Go.RowKit Go.Cg Go.Shelf Go.Maps

theorem affs_set_ne {w : World} {p : Option Addr} {xs : List Aff} (h : AffsAt w p xs) {a : Addr} (hb : ∀ b off, p = some ⟨b, off, none⟩ → b ≠ a.block) (u : Value) : AffsAt (w.setCell a u) p xs := ⟨Reads.setCell_ne h.reads hb u, h.wf, h.big⟩
/-- a paradigm that is being made: its box at D, its rows from D + 1 on -/
def TwinI (cs : List PCell) (D : Nat) (nm : ByteArray) (W : World) (v : Value) (k : Nat) (g : Nat → Option Addr × Nat) : Prop :=
  W.heap[D]? = some (.cells #[.string nm, v] 32 (0, 0)) ∧ W.ownsRow (D + 1) 45 2 v k (parList cs g k) ∧ ∀ j, j < k → AffsAt W (g j).1 (cx cs j).affs ∧ ∀ b off, (g j).1 = some ⟨b, off, none⟩ → D + 1 ≤ b ∧ b < W.heap.size ∧ some b ≠ v.ownBlock
theorem twin_ext {cs : List PCell} {D : Nat} {nm : ByteArray} {W W' : World} {v : Value} {k : Nat} {g : Nat → Option Addr × Nat} (h : TwinI cs D nm W v k g) (hx : Ext W W') : TwinI cs D nm W' v k g :=
  ⟨(hx.block D (Array.getElem?_eq_some_iff.1 h.1).1).trans h.1, ownsRow_ext h.2.1 hx, fun j hj => ⟨(h.2.2 j hj).1.mono hx, fun b off e => ⟨((h.2.2 j hj).2 b off e).1, Nat.lt_of_lt_of_le ((h.2.2 j hj).2 b off e).2.1 hx.le, ((h.2.2 j hj).2 b off e).2.2⟩⟩⟩
theorem twin_box {cs : List PCell} {D : Nat} {nm : ByteArray} {W : World} {v : Value} {k : Nat} {g : Nat → Option Addr × Nat} (h : TwinI cs D nm W v k g) {C o : Nat} (hC : C ≠ D) (hv : v.ownBlock ≠ some C) (hr : ∀ j, j < k → ∀ b off, (g j).1 = some ⟨b, off, none⟩ → b ≠ C) (u : Value) : TwinI cs D nm (W.setCell ⟨C, o, none⟩ u) v k g := by
  refine ⟨(heap_setCell_other _ _ _ _ (fun e => hC e.symm)).trans h.1, ownsRow_setCell_other h.2.1 hv u, fun j hj => ⟨affs_set_ne (h.2.2 j hj).1 (fun b off e => hr j hj b off e) u, fun b off e => ?_⟩⟩
  obtain ⟨h1, h2, h3⟩ := (h.2.2 j hj).2 b off e
  exact ⟨h1, Nat.lt_of_lt_of_le h2 (Nat.le_of_eq (World.size_setCell _ _ _).symm), h3⟩
/-- one cell more -/
theorem twin_more {cs : List PCell} {D : Nat} {nm : ByteArray} {W W' : World} {v : Value} {k : Nat} {g : Nat → Option Addr × Nat} (h : TwinI cs D nm W v k g) {x : Option Addr × Nat} (hx : AffsAt W x.1 (cx cs k).affs) (hxb : ∀ b off, x.1 = some ⟨b, off, none⟩ → D + 1 ≤ b ∧ b < W.heap.size ∧ some b ≠ v.ownBlock)
    {g4 cap : Nat} (hg : W.grownBy W' v.ownBlock) (h4 : W'.ownsRow (D + 1) 45 2 (.slice (some ⟨g4, 0, none⟩) (k + 1) cap) (k + 1) (parList cs (updG g k x) (k + 1))) (hl : v.ownBlock = some g4 ∨ g4 = W.heap.size) (hD : v.ownBlock ≠ some D) :
    TwinI cs D nm (W'.setCell ⟨D, 1, none⟩ (.slice (some ⟨g4, 0, none⟩) (k + 1) cap)) (.slice (some ⟨g4, 0, none⟩) (k + 1) cap) (k + 1) (updG g k x) := by
  have hDl := (Array.getElem?_eq_some_iff.1 h.1).1
  have hD2 : W'.heap[D]? = some (.cells #[.string nm, v] 32 (0, 0)) := (hg.block D hDl (fun e => hD e.symm)).trans h.1
  have hlt := h4.lt g4 rfl
  have hall : ∀ j, j < k + 1 → AffsAt W (updG g k x j).1 (cx cs j).affs ∧ ∀ b off, (updG g k x j).1 = some ⟨b, off, none⟩ → D + 1 ≤ b ∧ b < W.heap.size ∧ some b ≠ v.ownBlock := fun j hj => by
    unfold updG
    by_cases e : j = k
    · subst e; rw [if_pos rfl]; exact ⟨hx, hxb⟩
    · rw [if_neg e]; exact h.2.2 j (by omega)
  refine ⟨heap_setCell_same _ D 1 _ _ _ hD2, ownsRow_setCell_other h4 (by simp [Value.ownBlock]; omega) _, fun j hj => ?_⟩
  obtain ⟨a1, a2⟩ := hall j hj
  refine ⟨affs_set_ne (a1.grown hg fun b off e => (a2 b off e).2.2) (fun b off e => by have := (a2 b off e).1; show b ≠ D; omega) _, fun b off e => ?_⟩
  obtain ⟨b1, b2, b3⟩ := a2 b off e
  refine ⟨b1, Nat.lt_of_lt_of_le (Nat.lt_of_lt_of_le b2 hg.size) (Nat.le_of_eq (World.size_setCell _ _ _).symm), ?_⟩
  rcases hl with hl | hl
  · rw [hl] at b3; exact b3
  · simp [Value.ownBlock]; omega
/-- the paradigm that was made -/
theorem twin_at {cs : List PCell} {D : Nat} {nm : ByteArray} {W : World} {v : Value} {g : Nat → Option Addr × Nat} (h : TwinI cs D nm W v cs.length g) (ht : ∀ i, i < cs.length → (cx cs i).tags < 18446744073709551616) (hb : cs.length ≤ 4398046511104) : ∃ p c, v = .slice p cs.length c ∧ CellsAt W p cs g := by
  obtain ⟨p, c, rfl⟩ := ownsRow_slice h.2.1
  exact ⟨p, c, rfl, ownsRow_reads h.2.1 (fun j hj => parList_at hj), fun i hi => (h.2.2 i hi).1, ht, hb⟩

theorem infoAf : (Tryd.prog.info? 36).map (fun i => (i.zero, i.size, i.bytes)) = some (some (.agg #[.int .u8 0, .string ⟨#[]⟩, .string ⟨#[]⟩, .int .i64 0]), 4, 48) := by kernel_rfl
theorem infoCe : (Tryd.prog.info? 45).map (fun i => (i.zero, i.size, i.bytes)) = some (some (.agg #[.int .u64 0, .slice none 0 0]), 2, 32) := by kernel_rfl
def affList (xs : List Aff) : List Value := (List.range (xs.length * 4)).map (affCell xs)
theorem affList_at {xs : List Aff} {j : Nat} (h : j < xs.length * 4) : (affList xs)[j]? = some (affCell xs j) := by
  unfold affList
  rw [List.getElem?_map, List.getElem?_range h]; rfl
theorem affList_len (xs : List Aff) : (affList xs).length = xs.length * 4 := by simp [affList]
theorem affList_one (xs : List Aff) : ∀ u ∈ affList xs, u.oneCell' = true := fun u hu => by
  unfold affList at hu
  obtain ⟨j, _, rfl⟩ := List.mem_map.1 hu
  unfold affCell
  split
  · rfl
  · split
    · rfl
    · split <;> rfl
theorem affs_src {w : World} {p : Option Addr} {xs : List Aff} (h : AffsAt w p xs) : xs.length ≠ 0 → ∃ ad, p = some ad ∧ ∀ (j : Nat) (u : Value), (affList xs)[j]? = some u → w.cell? (ad.add j) = some u := fun h0 => by
  rcases h.reads with h1 | ⟨b, off, hp, hb, hc⟩
  · omega
  · refine ⟨_, hp, fun j u hu => ?_⟩
    have hj : j < xs.length * 4 := by
      rw [← affList_len]; exact (List.getElem?_eq_some_iff.1 hu).1
    rw [affList_at hj] at hu
    cases hu
    rw [show ((⟨b, off, none⟩ : Addr).add j) = ⟨b, off + j, none⟩ by simp [Addr.add]]
    exact hc j hj
theorem own_affs {B : Nat} {w : World} {p : Option Addr} {c : Nat} {xs : List Aff} (h : w.ownsRow B 36 4 (.slice p xs.length c) xs.length (affList xs)) (hw : ∀ i, i < xs.length → (ax xs i).wf) (hb : xs.length ≤ 4398046511104) : AffsAt w p xs ∧ ∀ b off, p = some ⟨b, off, none⟩ → B ≤ b ∧ b < w.heap.size := by
  refine ⟨⟨ownsRow_reads h (fun j hj => affList_at hj), hw, hb⟩, fun b off e => ?_⟩
  subst e
  rcases h.2 with ⟨h1, _⟩ | ⟨g, cap, cur, hv, hb2, hg, _⟩
  · cases h1
  · simp only [Value.slice.injEq, Option.some.injEq, Addr.mk.injEq, true_and, and_true] at hv
    obtain ⟨⟨rfl, _⟩, _⟩ := hv
    exact ⟨hb2, (Array.getElem?_eq_some_iff.1 hg).1⟩

theorem two_cells (w : World) (a b : Value) (T : TypeId) : ∀ j u, [a, b][j]? = some u → (w.alloc (.cells #[a, b] T (0, 0))).cell? ((⟨w.heap.size, 0, none⟩ : Addr).add j) = some u := fun j u h => by
  have e : ((⟨w.heap.size, 0, none⟩ : Addr).add j) = ⟨w.heap.size, j, none⟩ := by
    unfold Addr.add
    split
    · rename_i h0; rw [h0]
    · simp
  rw [e, (Ext.refl (w.alloc (.cells #[a, b] T (0, 0)))).cell0 j]
  match j, h with
  | 0, h => exact h
  | 1, h => exact h
  | j + 2, h => simp at h
def TwinRes (P : Para) (e : Ending) (w' : World) : Prop := ∃ p c g, e = .returned (.agg #[.string P.name, .slice p P.cells.length c]) ∧ CellsAt w' p P.cells g