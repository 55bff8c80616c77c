/- Contracts: cognatelaw02.sample, alive: the document's examples. -/
import Derived.Test.YtnngljflnfjppaaDoorFelg
namespace Go.Proofs.YtnngljflnfjppaaDoor
open Go.RowKit Go.Cg Go.Shelf Go.Maps

def sampA : Alpha := ⟨[⟨#[118, 111, 105, 99, 101, 100]⟩, ⟨#[110, 97, 115, 97, 108]⟩, ⟨#[118, 111, 119, 101, 108]⟩], [⟨112, 0, 7⟩, ⟨98, 1, 6⟩, ⟨109, 3, 4⟩, ⟨97, 5, 2⟩, ⟨104, 0, 0⟩]⟩

set_option maxHeartbeats 1000000 in
theorem sample_any (w : World) :
    Calls Tryd.prog 35 #[] w fun e w' => ∃ fp lp fc lc, e = .returned (.agg #[.slice fp sampA.feats.length fc, .slice lp sampA.lets.length lc]) ∧ AlphaAt w' fp lp sampA ∧ Ext w w' := by
  go_enter Tryd.func35, Tryd.ntmps35
  go_wp2_with fail
  obtain ⟨W1, hW1⟩ : ∃ W1, w.alloc (.cells #[.slice (some ⟨w.heap.size + 1, 0, none⟩) 3 3, .slice (some ⟨w.heap.size + 1 + 1, 0, none⟩) 5 5] 26) = W1 := ⟨_, rfl⟩
  have hz1 : W1.heap.size = w.heap.size + 1 := by rw [← hW1, size_alloc]
  have hb1 : W1.heap[w.heap.size]? = some (.cells #[.slice (some ⟨w.heap.size + 1, 0, none⟩) 3 3, .slice (some ⟨w.heap.size + 1 + 1, 0, none⟩) 5 5] 26 (0, 0)) := by rw [← hW1]; exact heap_alloc_new _ _
  have hx1 : Ext w W1 := by rw [← hW1]; exact (Ext.refl _).alloc _
  rw [hW1]
  clear hW1
  obtain ⟨W2, hW2⟩ : ∃ W2, W1.alloc (.cells #[.string ⟨#[118, 111, 105, 99, 101, 100]⟩, .string ⟨#[110, 97, 115, 97, 108]⟩, .string ⟨#[118, 111, 119, 101, 108]⟩] 9) = W2 := ⟨_, rfl⟩
  have hz2 : W2.heap.size = w.heap.size + 1 + 1 := by rw [← hW2, size_alloc, hz1]
  have hc2 : ∀ j, W2.cell? ⟨w.heap.size + 1, j, none⟩ = #[Value.string ⟨#[118, 111, 105, 99, 101, 100]⟩, .string ⟨#[110, 97, 115, 97, 108]⟩, .string ⟨#[118, 111, 119, 101, 108]⟩][j]? := by
    intro j
    have := (Ext.refl (W1.alloc (.cells #[.string ⟨#[118, 111, 105, 99, 101, 100]⟩, .string ⟨#[110, 97, 115, 97, 108]⟩, .string ⟨#[118, 111, 119, 101, 108]⟩] 9))).cell0 j
    rw [hW2, hz1] at this; exact this
  have hx2 : Ext W1 W2 := by rw [← hW2]; exact (Ext.refl _).alloc _
  rw [hW2]
  clear hW2
  obtain ⟨W3, hW3⟩ : ∃ W3, W2.alloc (.cells #[.int .i32 112, .int .u32 0, .int .u32 7, .int .i32 98, .int .u32 1, .int .u32 6, .int .i32 109, .int .u32 3, .int .u32 4, .int .i32 97, .int .u32 5, .int .u32 2, .int .i32 104, .int .u32 0, .int .u32 0] 35) = W3 := ⟨_, rfl⟩
  have hc3 : ∀ j, W3.cell? ⟨w.heap.size + 1 + 1, j, none⟩ = #[Value.int .i32 112, .int .u32 0, .int .u32 7, .int .i32 98, .int .u32 1, .int .u32 6, .int .i32 109, .int .u32 3, .int .u32 4, .int .i32 97, .int .u32 5, .int .u32 2, .int .i32 104, .int .u32 0, .int .u32 0][j]? := by
    intro j
    have := (Ext.refl (W2.alloc (.cells #[.int .i32 112, .int .u32 0, .int .u32 7, .int .i32 98, .int .u32 1, .int .u32 6, .int .i32 109, .int .u32 3, .int .u32 4, .int .i32 97, .int .u32 5, .int .u32 2, .int .i32 104, .int .u32 0, .int .u32 0] 35))).cell0 j
    rw [hW3, hz2] at this; exact this
  have hz3 : W3.heap.size = w.heap.size + 1 + 1 + 1 := by rw [← hW3, size_alloc, hz2]
  have hx3 : Ext W2 W3 := by rw [← hW3]; exact (Ext.refl _).alloc _
  rw [hW3]
  clear hW3
  refine bodyPost_ret (results_cell_row rfl _ _ w.heap.size 26 #[.slice (some ⟨w.heap.size + 1, 0, none⟩) 3 3, .slice (some ⟨w.heap.size + 1 + 1, 0, none⟩) 5 5] (0, 0) _ rfl ((Below.block (hx2.trans hx3) w.heap.size (by omega)).trans hb1) Tryd.underlying26 rfl (by kernel_rfl)) rfl ?_
  refine ⟨_, _, _, _, rfl, ⟨.inr ⟨w.heap.size + 1, 0, rfl, by omega, fun j hj => ?_⟩, .inr ⟨w.heap.size + 1 + 1, 0, rfl, by omega, fun j hj => ?_⟩, by decide, by decide, ?_, ?_⟩, (hx1.trans hx2).trans hx3⟩
  · have h1 : j < 3 := hj
    rw [Nat.zero_add, hx3.facts.1 _ _ (by omega), hc2]
    match j, h1 with
    | 0, _ => rfl
    | 1, _ => rfl
    | 2, _ => rfl
  · have h1 : j < 15 := hj
    rw [Nat.zero_add, hc3]
    match j, h1 with
    | 0, _ => rfl
    | 1, _ => rfl
    | 2, _ => rfl
    | 3, _ => rfl
    | 4, _ => rfl
    | 5, _ => rfl
    | 6, _ => rfl
    | 7, _ => rfl
    | 8, _ => rfl
    | 9, _ => rfl
    | 10, _ => rfl
    | 11, _ => rfl
    | 12, _ => rfl
    | 13, _ => rfl
    | 14, _ => rfl
  · intro i hi
    have h1 : i < 5 := hi
    unfold Letter.wf
    match i, h1 with
    | 0, _ => decide
    | 1, _ => decide
    | 2, _ => decide
    | 3, _ => decide
    | 4, _ => decide
  · intro i hi
    have h1 : i < 3 := hi
    match i, h1 with
    | 0, _ => decide
    | 1, _ => decide
    | 2, _ => decide

def tx1 : ByteArray := ⟨#[43, 118, 111, 105, 99, 101, 100, 45, 110, 97, 115, 97, 108, 45, 118, 111, 119, 101, 108]⟩
def tx2 : ByteArray := ⟨#[45, 118, 111, 119, 101, 108, 43, 118, 111, 105, 99, 101, 100]⟩
def tx3 : ByteArray := ⟨#[43, 118, 111, 105, 99, 101, 100, 45, 118, 111, 105, 99, 101, 100]⟩
theorem sv_class : classL sampA 1 4 = [98, 109] ∧ classE sampA 1 4 = 0 := by decide +kernel
theorem sv_near : nearR sampA 98 2 1 = 112 ∧ hasE sampA 98 2 1 = 0 := by decide +kernel
theorem sv_far : farN sampA 112 104 = 3 ∧ farE sampA 112 104 = 0 := by decide +kernel
theorem sv_least : leastP sampA [98, 109] = 1 ∧ leastM sampA [98, 109] = 4 ∧ leastE sampA [98, 109] = 0 := by decide +kernel
theorem sv_text : textS sampA 1 6 = tx1 ∧ classE sampA 1 6 = 0 := by decide +kernel
theorem sv_parse : parseR sampA tx2 = (1, 4, 0, 0) := by decide +kernel
theorem sv_parse2 : parseR sampA tx3 = (0, 0, 7, 20) := by decide +kernel
theorem sv_has : hasB sampA 98 1 2 = true ∧ hasE sampA 98 1 2 = 0 := by decide +kernel
theorem sv_check : checkN sampA = 0 ∧ checkN ⟨[], []⟩ = 7 := by decide +kernel

end Go.Proofs.YtnngljflnfjppaaDoor
