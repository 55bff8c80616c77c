/- Contracts: cognatelaw13.letters, shape, alive: the document's examples. -/
import Derived.Test.YtnngljflnfjppaaDoorRadk
namespace Go.Proofs.YtnngljflnfjppaaDoor
open Go.RowKit Go.Cg Go.Shelf Go.Maps

def letA : Alpha := ⟨[⟨#[118]⟩], [⟨97, 1, 0⟩, ⟨105, 1, 0⟩, ⟨107, 0, 1⟩, ⟨116, 0, 1⟩, ⟨98, 0, 1⟩]⟩

set_option maxHeartbeats 1000000 in
theorem letters13_any (w : World) :
    Calls Tryd.prog 33 #[] w fun e w' => ∃ fp lp fc lc, e = .returned (.agg #[.slice fp letA.feats.length fc, .slice lp letA.lets.length lc]) ∧ AlphaAt w' fp lp letA ∧ Ext w w' := by
  go_enter Tryd.func33, Tryd.ntmps33
  go_wp2_with fail
  obtain ⟨W1, hW1⟩ : ∃ W1, w.alloc (.cells #[.slice (some ⟨w.heap.size + 1, 0, none⟩) 1 1, .slice (some ⟨w.heap.size + 1 + 1, 0, none⟩) 5 5] 26) = W1 := ⟨_, rfl⟩
  have hz1 : W1.heap.size = w.heap.size + 1 := by rw [← hW1, size_alloc]
  have hb1 : W1.heap[w.heap.size]? = some (.cells #[.slice (some ⟨w.heap.size + 1, 0, none⟩) 1 1, .slice (some ⟨w.heap.size + 1 + 1, 0, none⟩) 5 5] 26 (0, 0)) := by rw [← hW1]; exact heap_alloc_new _ _
  have hx1 : Ext w W1 := by rw [← hW1]; exact (Ext.refl _).alloc _
  rw [hW1]
  clear hW1
  obtain ⟨W2, hW2⟩ : ∃ W2, W1.alloc (.cells #[.string ⟨#[118]⟩] 9) = W2 := ⟨_, rfl⟩
  have hz2 : W2.heap.size = w.heap.size + 1 + 1 := by rw [← hW2, size_alloc, hz1]
  have hc2 : ∀ j, W2.cell? ⟨w.heap.size + 1, j, none⟩ = #[Value.string ⟨#[118]⟩][j]? := by
    intro j
    have := (Ext.refl (W1.alloc (.cells #[.string ⟨#[118]⟩] 9))).cell0 j
    rw [hW2, hz1] at this; exact this
  have hx2 : Ext W1 W2 := by rw [← hW2]; exact (Ext.refl _).alloc _
  rw [hW2]
  clear hW2
  obtain ⟨W3, hW3⟩ : ∃ W3, W2.alloc (.cells #[.int .i32 97, .int .u32 1, .int .u32 0, .int .i32 105, .int .u32 1, .int .u32 0, .int .i32 107, .int .u32 0, .int .u32 1, .int .i32 116, .int .u32 0, .int .u32 1, .int .i32 98, .int .u32 0, .int .u32 1] 35) = W3 := ⟨_, rfl⟩
  have hc3 : ∀ j, W3.cell? ⟨w.heap.size + 1 + 1, j, none⟩ = #[Value.int .i32 97, .int .u32 1, .int .u32 0, .int .i32 105, .int .u32 1, .int .u32 0, .int .i32 107, .int .u32 0, .int .u32 1, .int .i32 116, .int .u32 0, .int .u32 1, .int .i32 98, .int .u32 0, .int .u32 1][j]? := by
    intro j
    have := (Ext.refl (W2.alloc (.cells #[.int .i32 97, .int .u32 1, .int .u32 0, .int .i32 105, .int .u32 1, .int .u32 0, .int .i32 107, .int .u32 0, .int .u32 1, .int .i32 116, .int .u32 0, .int .u32 1, .int .i32 98, .int .u32 0, .int .u32 1] 35))).cell0 j
    rw [hW3, hz2] at this; exact this
  have hz3 : W3.heap.size = w.heap.size + 1 + 1 + 1 := by rw [← hW3, size_alloc, hz2]
  have hx3 : Ext W2 W3 := by rw [← hW3]; exact (Ext.refl _).alloc _
  rw [hW3]
  clear hW3
  refine bodyPost_ret (results_cell_row rfl _ _ w.heap.size 26 #[.slice (some ⟨w.heap.size + 1, 0, none⟩) 1 1, .slice (some ⟨w.heap.size + 1 + 1, 0, none⟩) 5 5] (0, 0) _ rfl ((Below.block (hx2.trans hx3) w.heap.size (by omega)).trans hb1) Tryd.underlying26 rfl (by kernel_rfl)) rfl ?_
  refine ⟨_, _, _, _, rfl, ⟨.inr ⟨w.heap.size + 1, 0, rfl, by omega, fun j hj => ?_⟩, .inr ⟨w.heap.size + 1 + 1, 0, rfl, by omega, fun j hj => ?_⟩, by decide, by decide, ?_, ?_⟩, (hx1.trans hx2).trans hx3⟩
  · have h1 : j < 1 := hj
    rw [Nat.zero_add, hx3.facts.1 _ _ (by omega), hc2]
    match j, h1 with
    | 0, _ => rfl
  · have h1 : j < 15 := hj
    rw [Nat.zero_add, hc3]
    match j, h1 with
    | 0, _ => rfl
    | 1, _ => rfl
    | 2, _ => rfl
    | 3, _ => rfl
    | 4, _ => rfl
    | 5, _ => rfl
    | 6, _ => rfl
    | 7, _ => rfl
    | 8, _ => rfl
    | 9, _ => rfl
    | 10, _ => rfl
    | 11, _ => rfl
    | 12, _ => rfl
    | 13, _ => rfl
    | 14, _ => rfl
  · intro i hi
    have h1 : i < 5 := hi
    unfold Letter.wf
    match i, h1 with
    | 0, _ => decide
    | 1, _ => decide
    | 2, _ => decide
    | 3, _ => decide
    | 4, _ => decide
  · intro i hi
    have h1 : i < 1 := hi
    match i, h1 with
    | 0, _ => decide

set_option maxHeartbeats 400000 in
theorem shape13_any (s : ByteArray) (w : World) :
    Calls Tryd.prog 34 #[.string s] w fun e w' => e = .returned (.agg #[.string ⟨#[]⟩, .string s]) ∧ Ext w w' := by
  go_enter Tryd.func34, Tryd.ntmps34
  go_wp2_with fail
  refine bodyPost_ret (results_cell_row rfl _ _ w.heap.size 41 #[.string ⟨#[]⟩, .string s] (0, 0) _ rfl (heap_alloc_new w _) Tryd.underlying41 rfl (by kernel_rfl)) rfl ⟨rfl, ?_⟩
  exact (Ext.refl _).alloc _

def ktb : ByteArray := ⟨#[107, 116, 98]⟩
def katab : ByteArray := ⟨#[107, 97, 116, 97, 98]⟩
def oaoao : ByteArray := ⟨#[95, 97, 95, 97, 95]⟩
theorem alive_v1 : mergeE letA ktb ⟨#[]⟩ oaoao = 0 := by decide +kernel
theorem alive_v2 : mergeS letA ktb ⟨#[]⟩ oaoao = katab := by decide +kernel
theorem alive_v3 : splitE letA katab ⟨#[]⟩ oaoao = 0 := by decide +kernel
theorem alive_v4 : splitB letA katab ⟨#[]⟩ oaoao = true := by decide +kernel
theorem alive_v5 : splitS letA katab ⟨#[]⟩ oaoao = ktb := by decide +kernel

set_option maxRecDepth 100000 in
set_option maxHeartbeats 2000000 in
theorem alive13_any (w : World) (hT : Tabs w) :
    Calls Tryd.prog 31 #[] w fun e w' => e = .returned (.bool true) ∧ Ext w w' := by
  have hm := fun fp lp fc lc W hA hTW => merge_any fp lp fc lc letA ktb ⟨#[]⟩ oaoao (by decide) (by decide) (by decide) W hA hTW
  rw [alive_v1, alive_v2] at hm
  simp only [katab, ktb, oaoao] at hm
  have hs := fun fp lp fc lc W hA hTW => split_word_any fp lp fc lc letA katab ⟨#[]⟩ oaoao (by decide) (by decide) (by decide) W hA hTW
  rw [alive_v3, alive_v4, alive_v5] at hs
  simp only [katab, ktb, oaoao] at hs
  have HM := Lib.hid hm
  have HS := Lib.hid hs
  clear hm hs
  go_enter Tryd.func31, Tryd.ntmps31
  go_wp2_with fail
  refine (letters13_any _).mono ?_
  rintro e w1 ⟨fp, lp, fc, lc, rfl, hA, hx1⟩
  go_wp2_with fail
  refine (shape13_any ⟨#[95, 97, 95, 97, 95]⟩ _).mono ?_
  rintro e w2 ⟨rfl, hx2⟩
  go_wp2_with fail
  refine (HM.out fp lp fc lc _ (hA.mono hx2) (hT.ext (hx1.trans hx2))).mono ?_
  rintro e w3 ⟨rfl, hx3⟩
  have hy3 : Ext w w3 := (hx1.trans hx2).trans hx3
  clear hA hx1 hx2 hx3
  go_wp2_with fail
  refine (letters13_any _).mono ?_
  rintro e w4 ⟨fp2, lp2, fc2, lc2, rfl, hA, hx1⟩
  go_wp2_with fail
  refine (shape13_any ⟨#[95, 97, 95, 97, 95]⟩ _).mono ?_
  rintro e w5 ⟨rfl, hx2⟩
  go_wp2_with fail
  refine (HS.out fp2 lp2 fc2 lc2 _ (hA.mono hx2) (hT.ext ((hy3.trans hx1).trans hx2))).mono ?_
  rintro e w6 ⟨rfl, hx3⟩
  have hy6 : Ext w w6 := ((hy3.trans hx1).trans hx2).trans hx3
  go_wp2_with fail
  go_ret
  exact ⟨rfl, hy6⟩

end Go.Proofs.YtnngljflnfjppaaDoor
