/- More small laws on worlds with more blocks. -/
import Derived.Test.YtcnhlogkhnoacaaGreatDoorMapb
namespace Go.Cg
open Go.RowKit

theorem Ext.box {w wr : World} {o : Obj} (h : Ext (w.alloc o) wr) : Ext w wr := ((Ext.refl w).alloc o).trans h
theorem Ext.box2 {w wr : World} {o o' : Obj} (h : Ext ((w.alloc o).alloc o') wr) : Ext w wr := (((Ext.refl w).alloc o).alloc o').trans h
theorem Ext.of_drewN {w wr : World} {n : Nat} (h : Ext (w.drewN n) wr) : Ext w wr := ((Ext.refl w).drewN n).trans h
theorem Reads.at_ {w : World} {b off k : Nat} {f : Nat → Value} (h : Reads w (some ⟨b, off, none⟩) k f) {j : Nat} (hj : j < k) : b < w.heap.size ∧ w.cell? ⟨b, off + j, none⟩ = some (f j) := by
  rcases h with h0 | ⟨b', off', hp, hlt, hc⟩
  · omega
  · simp only [Option.some.injEq, Addr.mk.injEq, and_true] at hp
    obtain ⟨rfl, rfl⟩ := hp
    exact ⟨hlt, hc j hj⟩
theorem AlphaAt.fcell {w : World} {b off : Nat} {lp : Option Addr} {A : Alpha} (h : AlphaAt w (some ⟨b, off, none⟩) lp A) {i : Nat} (hi : i < A.feats.length) : w.cell? ⟨b, off + i, none⟩ = some (.string (A.ft i)) :=
  (h.feats.at_ hi).2
theorem AlphaAt.lcell {w : World} {b off : Nat} {fp : Option Addr} {A : Alpha} (h : AlphaAt w fp (some ⟨b, off, none⟩) A) {i : Nat} (hi : i < A.lets.length) :
    b < w.heap.size ∧ w.cell? ⟨b, off + i * 3, none⟩ = some (.int .i32 (A.at_ i).rune) ∧
      w.cell? ⟨b, off + i * 3 + 1, none⟩ = some (.int .u32 ((A.at_ i).plus : Int)) ∧ w.cell? ⟨b, off + i * 3 + 2, none⟩ = some (.int .u32 ((A.at_ i).minus : Int)) := by
  obtain ⟨b', off', hp, hlt, c⟩ := h.cells hi
  simp only [Option.some.injEq, Addr.mk.injEq, and_true] at hp
  obtain ⟨rfl, rfl⟩ := hp
  exact ⟨hlt, c⟩
theorem RunesAt.cell {w : World} {b off : Nat} {l : List Int} (h : RunesAt w (some ⟨b, off, none⟩) l) {i : Nat} (hi : i < l.length) : b < w.heap.size ∧ w.cell? ⟨b, off + i, none⟩ = some (.int .i32 (rn l i)) :=
  h.reads.at_ hi
theorem AlphaAt.fsome {w : World} {fp lp : Option Addr} {A : Alpha} (h : AlphaAt w fp lp A) (hi : 0 < A.feats.length) : ∃ b off, fp = some ⟨b, off, none⟩ ∧ b < w.heap.size := by
  obtain ⟨b, off, h1, h2, _⟩ := h.fcells hi; exact ⟨b, off, h1, h2⟩
theorem AlphaAt.lsome {w : World} {fp lp : Option Addr} {A : Alpha} (h : AlphaAt w fp lp A) (hi : 0 < A.lets.length) : ∃ b off, lp = some ⟨b, off, none⟩ ∧ b < w.heap.size := by
  obtain ⟨b, off, h1, h2, _⟩ := h.cells hi; exact ⟨b, off, h1, h2⟩
theorem RunesAt.some_ {w : World} {p : Option Addr} {l : List Int} (h : RunesAt w p l) (hi : 0 < l.length) : ∃ b off, p = some ⟨b, off, none⟩ ∧ b < w.heap.size := by
  obtain ⟨b, off, h1, h2, _⟩ := h.cells hi; exact ⟨b, off, h1, h2⟩
theorem bytes_eq_iff {a b : ByteArray} : (a.toList == b.toList) = true ↔ a = b := by
  rw [beq_iff_eq, Lib.toList_data, Lib.toList_data]
  constructor
  · intro h
    have h2 : a.data = b.data := Array.toList_inj.1 h
    cases a; cases b; simp_all
  · rintro rfl; rfl
theorem bytes_ne_iff {a b : ByteArray} : (a.toList == b.toList) = false ↔ a ≠ b := by
  rw [← Bool.not_eq_true, bytes_eq_iff]
/-- the cells of the block that was laid last ahead of w' -/
theorem Ext.cell0 {w wr : World} {cs : Array Value} {T : TypeId} (h : Ext (w.alloc (.cells cs T)) wr) (j : Nat) : wr.cell? ⟨w.heap.size, j, none⟩ = cs[j]? := by
  rw [h.facts.1 _ _ (by simp)]; simp
theorem Ext.froz0 {w wr : World} {cs : Array Value} {T : TypeId} (h : Ext (w.alloc (.cells cs T)) wr) (j : Nat) : wr.frozen? ⟨w.heap.size, j, none⟩ = false := by
  rw [h.facts.2.1 _ _ (by simp)]; simp
theorem Ext.lt0 {w wr : World} {o : Obj} (h : Ext (w.alloc o) wr) : w.heap.size < wr.heap.size := by
  have := h.facts.2.2; simp at this; omega
theorem Ext.le {w wr : World} (h : Ext w wr) : w.heap.size ≤ wr.heap.size := Below.size h
end Go.Cg
