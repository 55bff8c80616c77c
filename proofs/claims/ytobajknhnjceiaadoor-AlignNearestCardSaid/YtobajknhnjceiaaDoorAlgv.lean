/- Contracts: cognatelaw21.pbma, awake. -/
import Derived.Test.YtobajknhnjceiaaDoorAlga
namespace Go.Proofs.YtobajknhnjceiaaDoor
open Go.RowKit Go.Cg Go.Shelf Go.Maps

def pbmA : Alpha := ⟨[⟨#[118, 111, 105, 99, 101, 100]⟩, ⟨#[110, 97, 115, 97, 108]⟩, ⟨#[118, 111, 119, 101, 108]⟩], [⟨112, 0, 7⟩, ⟨98, 1, 6⟩, ⟨109, 3, 4⟩, ⟨97, 5, 2⟩]⟩

set_option maxHeartbeats 1000000 in
theorem pbma_any (w : World) :
    Calls Tryd.prog 48 #[] w fun e w' => ∃ fp lp fc lc, e = .returned (.agg #[.slice fp pbmA.feats.length fc, .slice lp pbmA.lets.length lc]) ∧ AlphaAt w' fp lp pbmA ∧ Ext w w' := by
  go_enter Tryd.func48, Tryd.ntmps48
  go_wp2_with fail
  obtain ⟨W1, hW1⟩ : ∃ W1, w.alloc (.cells #[.slice (some ⟨w.heap.size + 1, 0, none⟩) 3 3, .slice (some ⟨w.heap.size + 1 + 1, 0, none⟩) 4 4] 25) = W1 := ⟨_, rfl⟩
  have hz1 : W1.heap.size = w.heap.size + 1 := by rw [← hW1, size_alloc]
  have hb1 : W1.heap[w.heap.size]? = some (.cells #[.slice (some ⟨w.heap.size + 1, 0, none⟩) 3 3, .slice (some ⟨w.heap.size + 1 + 1, 0, none⟩) 4 4] 25 (0, 0)) := by rw [← hW1]; exact heap_alloc_new _ _
  have hx1 : Ext w W1 := by rw [← hW1]; exact (Ext.refl _).alloc _
  rw [hW1]
  clear hW1
  obtain ⟨W2, hW2⟩ : ∃ W2, W1.alloc (.cells #[.string ⟨#[118, 111, 105, 99, 101, 100]⟩, .string ⟨#[110, 97, 115, 97, 108]⟩, .string ⟨#[118, 111, 119, 101, 108]⟩] 9) = W2 := ⟨_, rfl⟩
  have hz2 : W2.heap.size = w.heap.size + 1 + 1 := by rw [← hW2, size_alloc, hz1]
  have hc2 : ∀ j, W2.cell? ⟨w.heap.size + 1, j, none⟩ = #[Value.string ⟨#[118, 111, 105, 99, 101, 100]⟩, .string ⟨#[110, 97, 115, 97, 108]⟩, .string ⟨#[118, 111, 119, 101, 108]⟩][j]? := by
    intro j
    have := (Ext.refl (W1.alloc (.cells #[.string ⟨#[118, 111, 105, 99, 101, 100]⟩, .string ⟨#[110, 97, 115, 97, 108]⟩, .string ⟨#[118, 111, 119, 101, 108]⟩] 9))).cell0 j
    rw [hW2, hz1] at this; exact this
  have hx2 : Ext W1 W2 := by rw [← hW2]; exact (Ext.refl _).alloc _
  rw [hW2]
  clear hW2
  obtain ⟨W3, hW3⟩ : ∃ W3, W2.alloc (.cells #[.int .i32 112, .int .u32 0, .int .u32 7, .int .i32 98, .int .u32 1, .int .u32 6, .int .i32 109, .int .u32 3, .int .u32 4, .int .i32 97, .int .u32 5, .int .u32 2] 91) = W3 := ⟨_, rfl⟩
  have hc3 : ∀ j, W3.cell? ⟨w.heap.size + 1 + 1, j, none⟩ = #[Value.int .i32 112, .int .u32 0, .int .u32 7, .int .i32 98, .int .u32 1, .int .u32 6, .int .i32 109, .int .u32 3, .int .u32 4, .int .i32 97, .int .u32 5, .int .u32 2][j]? := by
    intro j
    have := (Ext.refl (W2.alloc (.cells #[.int .i32 112, .int .u32 0, .int .u32 7, .int .i32 98, .int .u32 1, .int .u32 6, .int .i32 109, .int .u32 3, .int .u32 4, .int .i32 97, .int .u32 5, .int .u32 2] 91))).cell0 j
    rw [hW3, hz2] at this; exact this
  have hz3 : W3.heap.size = w.heap.size + 1 + 1 + 1 := by rw [← hW3, size_alloc, hz2]
  have hx3 : Ext W2 W3 := by rw [← hW3]; exact (Ext.refl _).alloc _
  rw [hW3]
  clear hW3
  refine bodyPost_ret (results_cell_row rfl _ _ w.heap.size 25 #[.slice (some ⟨w.heap.size + 1, 0, none⟩) 3 3, .slice (some ⟨w.heap.size + 1 + 1, 0, none⟩) 4 4] (0, 0) _ rfl ((Below.block (hx2.trans hx3) w.heap.size (by omega)).trans hb1) Tryd.underlying25 rfl (by kernel_rfl)) rfl ?_
  refine ⟨_, _, _, _, rfl, ⟨.inr ⟨w.heap.size + 1, 0, rfl, by omega, fun j hj => ?_⟩, .inr ⟨w.heap.size + 1 + 1, 0, rfl, by omega, fun j hj => ?_⟩, by decide, by decide, ?_, ?_⟩, (hx1.trans hx2).trans hx3⟩
  · have h1 : j < 3 := hj
    rw [Nat.zero_add, hx3.facts.1 _ _ (by omega), hc2]
    match j, h1 with
    | 0, _ => rfl
    | 1, _ => rfl
    | 2, _ => rfl
  · have h1 : j < 12 := hj
    rw [Nat.zero_add, hc3]
    match j, h1 with
    | 0, _ => rfl
    | 1, _ => rfl
    | 2, _ => rfl
    | 3, _ => rfl
    | 4, _ => rfl
    | 5, _ => rfl
    | 6, _ => rfl
    | 7, _ => rfl
    | 8, _ => rfl
    | 9, _ => rfl
    | 10, _ => rfl
    | 11, _ => rfl
  · intro i hi
    have h1 : i < 4 := hi
    unfold Letter.wf
    match i, h1 with
    | 0, _ => decide
    | 1, _ => decide
    | 2, _ => decide
    | 3, _ => decide
  · intro i hi
    have h1 : i < 3 := hi
    match i, h1 with
    | 0, _ => decide
    | 1, _ => decide
    | 2, _ => decide


theorem awake_v1 : costE pbmA 112 98 = 0 := by decide +kernel
theorem awake_v2 : costN pbmA 112 98 = 3 := by decide +kernel

set_option maxRecDepth 100000 in
set_option maxHeartbeats 1000000 in
theorem awake21_any (w : World) :
    Calls Tryd.prog 15 #[] w fun e w' => e = .returned (.bool true) ∧ Ext w w' := by
  have hm := fun fp lp fc lc W hA => Cost_any fp lp fc lc pbmA 112 98 W hA
  rw [awake_v1, awake_v2] at hm
  have HM := Lib.hid hm
  clear hm
  go_enter Tryd.func15, Tryd.ntmps15
  go_wp2_with fail
  refine (pbma_any _).mono ?_
  rintro e w1 ⟨fp, lp, fc, lc, rfl, hA, hx1⟩
  go_wp2_with fail
  refine (HM.out fp lp fc lc _ hA).mono ?_
  rintro e w2 ⟨rfl, hx2⟩
  go_wp2_with fail
  go_ret
  exact ⟨rfl, hx1.trans hx2⟩

end Go.Proofs.YtobajknhnjceiaaDoor
