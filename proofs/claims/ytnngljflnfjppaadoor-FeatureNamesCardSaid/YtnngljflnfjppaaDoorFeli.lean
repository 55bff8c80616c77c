/- Contract: cognatelaw02.alive: it returns true. -/
import Derived.Test.YtnngljflnfjppaaDoorFelh
namespace Go.Proofs.YtnngljflnfjppaaDoor
open Go.RowKit Go.Cg Go.Shelf Go.Maps

theorem AlphaAt.none_ (w : World) : AlphaAt w none none ⟨[], []⟩ := ⟨.inl rfl, .inl rfl, by decide, by decide, fun i hi => absurd hi (by simp), fun i hi => absurd hi (by simp)⟩

set_option maxRecDepth 100000 in
set_option maxHeartbeats 2000000 in
theorem alive_any (w : World) : Calls Tryd.prog 8 #[] w fun e w' => e = .returned (.bool true) ∧ Ext w w' := by
  go_enter Tryd.func8, Tryd.ntmps8
  go_wp2_with fail
  refine (sample_any _).mono ?_
  rintro e w1 ⟨fp, lp, fc, lc, rfl, hA, hx1⟩
  have hb1 : Ext (w1.alloc (.cells #[.slice fp sampA.feats.length fc, .slice lp sampA.lets.length lc] 26)) (w1.alloc (.cells #[.slice fp sampA.feats.length fc, .slice lp sampA.lets.length lc] 26)) := Ext.refl _
  have hk1 : Ext w1 (w1.alloc (.cells #[.slice fp sampA.feats.length fc, .slice lp sampA.lets.length lc] 26)) := (Ext.refl _).alloc _
  go_wp2_with fail
  refine (class_any _ _ _ _ _ 1 4 (by decide) (by decide) _ (hA.mono hk1)).mono ?_
  rw [sv_class.1, sv_class.2]
  rintro e w2 ⟨cp, cc, rfl, hown, hx2⟩
  have hk2 := hk1.trans hx2
  have hb2 := hb1.trans hx2
  have d0 := hb2.cell0 0
  have d1 := hb2.cell0 1
  simp only [List.getElem?_toArray, List.getElem?_cons_zero, List.getElem?_cons_succ] at d0 d1
  have hs := hb2.lt0
  have ho2 := hown.at_
  obtain ⟨cb, co, rfl, hcb, c0⟩ := ho2.cells (i := 0) (by decide)
  obtain ⟨_, c1⟩ := ho2.cell (i := 1) (by decide)
  rw [Nat.add_zero] at c0
  change w2.cell? _ = some (.int .i32 98) at c0
  change w2.cell? _ = some (.int .i32 109) at c1
  have hq2 := Ext.refl w2
  go_wp2_with fail
  clear d0 d1 hs
  refine (near_any _ _ _ _ _ 98 2 1 (by decide) (by decide) _ (hA.mono hk2)).mono ?_
  rw [sv_near.1, sv_near.2]
  rintro e w3 ⟨rfl, hx3⟩
  have hk3 := hk2.trans hx3
  have hb3 := hb2.trans hx3
  have d0 := hb3.cell0 0
  have d1 := hb3.cell0 1
  simp only [List.getElem?_toArray, List.getElem?_cons_zero, List.getElem?_cons_succ] at d0 d1
  have hs := hb3.lt0
  have hq3 := hq2.trans hx3
  go_wp2_with fail
  clear d0 d1 hs
  refine (far_any _ _ _ _ _ 112 104 _ (hA.mono hk3)).mono ?_
  rw [sv_far.1, sv_far.2]
  rintro e w4 ⟨rfl, hx4⟩
  have hk4 := hk3.trans hx4
  have hb4 := hb3.trans hx4
  have d0 := hb4.cell0 0
  have d1 := hb4.cell0 1
  simp only [List.getElem?_toArray, List.getElem?_cons_zero, List.getElem?_cons_succ] at d0 d1
  have hs := hb4.lt0
  have hq4 := hq3.trans hx4
  go_wp2_with fail
  clear d0 d1 hs
  have hR : RunesAt (w4.alloc (.cells #[.int .i32 98, .int .i32 109] 21)) (some ⟨w4.heap.size, 0, none⟩) [98, 109] := RunesAt.two (w := w) (heap_alloc_new _ _) (by decide) (by decide)
  refine (least_any _ _ _ _ _ 2 _ [98, 109] _ (hA.mono (hk4.alloc _)) hR).mono ?_
  rw [sv_least.1, sv_least.2.1, sv_least.2.2]
  rintro e w5 ⟨rfl, hx5⟩
  have hk5 := (hk4.alloc (.cells #[.int .i32 98, .int .i32 109] 21)).trans hx5
  have hb5 := (hb4.alloc (.cells #[.int .i32 98, .int .i32 109] 21)).trans hx5
  have d0 := hb5.cell0 0
  have d1 := hb5.cell0 1
  simp only [List.getElem?_toArray, List.getElem?_cons_zero, List.getElem?_cons_succ] at d0 d1
  have hs := hb5.lt0
  have hq5 := (hq4.alloc (.cells #[.int .i32 98, .int .i32 109] 21)).trans hx5
  go_wp2_with fail
  clear d0 d1 hs
  refine (text_any _ _ _ _ _ 1 6 (by decide) (by decide) _ (hA.mono hk5)).mono ?_
  rw [sv_text.1, sv_text.2]
  rintro e w6 ⟨rfl, hx6⟩
  have hk6 := hk5.trans hx6
  have hb6 := hb5.trans hx6
  have d0 := hb6.cell0 0
  have d1 := hb6.cell0 1
  simp only [List.getElem?_toArray, List.getElem?_cons_zero, List.getElem?_cons_succ] at d0 d1
  have hs := hb6.lt0
  have hq6 := hq5.trans hx6
  go_wp2_with fail
  clear d0 d1 hs
  refine (parse_any _ _ _ _ _ tx2 (by decide) _ (hA.mono hk6)).mono ?_
  rw [sv_parse]
  rintro e w7 ⟨rfl, hx7⟩
  have hk7 := hk6.trans hx7
  have hb7 := hb6.trans hx7
  have d0 := hb7.cell0 0
  have d1 := hb7.cell0 1
  simp only [List.getElem?_toArray, List.getElem?_cons_zero, List.getElem?_cons_succ] at d0 d1
  have hs := hb7.lt0
  have hq7 := hq6.trans hx7
  go_wp2_with fail
  clear d0 d1 hs
  refine (parse_any _ _ _ _ _ tx3 (by decide) _ (hA.mono hk7)).mono ?_
  rw [sv_parse2]
  rintro e w8 ⟨rfl, hx8⟩
  have hk8 := hk7.trans hx8
  have hb8 := hb7.trans hx8
  have d0 := hb8.cell0 0
  have d1 := hb8.cell0 1
  simp only [List.getElem?_toArray, List.getElem?_cons_zero, List.getElem?_cons_succ] at d0 d1
  have hs := hb8.lt0
  have hq8 := hq7.trans hx8
  go_wp2_with fail
  clear d0 d1 hs
  refine (has_any _ _ _ _ _ 98 1 2 (by decide) (by decide) _ (hA.mono hk8)).mono ?_
  rw [sv_has.1, sv_has.2]
  rintro e w9 ⟨rfl, hx9⟩
  have hk9 := hk8.trans hx9
  have hb9 := hb8.trans hx9
  have d0 := hb9.cell0 0
  have d1 := hb9.cell0 1
  simp only [List.getElem?_toArray, List.getElem?_cons_zero, List.getElem?_cons_succ] at d0 d1
  have hs := hb9.lt0
  have hq9 := hq8.trans hx9
  have htx : (tx1.toList == [43, 118, 111, 105, 99, 101, 100, 45, 110, 97, 115, 97, 108, 45, 118, 111, 119, 101, 108]) = true := by rw [Lib.toList_data]; rfl
  have g0 := (hq9.facts.1 _ _ hcb).trans c0
  have g1 := (hq9.facts.1 _ _ hcb).trans c1
  clear c0 c1
  go_wp2_with fail
  refine (check_any _ _ _ _ _ _ (hA.mono hk9)).mono ?_
  rw [sv_check.1]
  rintro e wA ⟨rfl, hxA⟩
  go_wp2_with fail
  refine (check_any none none 0 0 ⟨[], []⟩ _ (AlphaAt.none_ _)).mono ?_
  rw [sv_check.2]
  rintro e wB ⟨rfl, hxB⟩
  go_wp2_with fail
  go_ret
  exact ⟨rfl, ((hx1.trans hk9).trans hxA).trans hxB⟩
end Go.Proofs.YtnngljflnfjppaaDoor
