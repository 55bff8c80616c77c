/- The law HarmonyWords, walked. -/
import Derived.Test.YtcnjgfadihimiaaDoorHarmc
namespace Go.Proofs.YtcnjgfadihimiaaDoor
open Go.RowKit Go.Cg Go.Shelf Go.Maps

set_option maxRecDepth 100000 in
set_option maxHeartbeats 4000000 in
theorem harmonyWords_any (fp lp : Option Addr) (fc lc : Nat) (A : Alpha) (s : ByteArray) (hs : s.size ≤ 140737488351232) (p : Nat) (hp : p < 4294967296) (c : Nat) (hc : c < 4294967296) (k : Nat) (hk : k < 4294967296) (w : World) (hA : AlphaAt w fp lp A) (hTb : Tabs w) :
    Calls Tryd.prog 4 #[.agg #[.slice fp A.feats.length fc, .slice lp A.lets.length lc], .string s, .int .u32 p, .int .u32 c, .int .u32 k] w fun e w' => e = .returned (.bool true) ∧ Ext w w' := by
  have hx0 : Ext w (w.alloc (.cells #[.slice fp A.feats.length fc, .slice lp A.lets.length lc] 26)) := (Ext.refl _).alloc _
  have HBX := Lib.hid (fun W (hW : Ext (w.alloc (.cells #[.slice fp A.feats.length fc, .slice lp A.lets.length lc] 26)) W) => (⟨hW.cell0 0, hW.cell0 1, hW.lt0⟩ : W.cell? ⟨w.heap.size, 0, none⟩ = some (.slice fp A.feats.length fc) ∧ W.cell? ⟨w.heap.size, 1, none⟩ = some (.slice lp A.lets.length lc) ∧ w.heap.size < W.heap.size))
  have HAL := Lib.hid (alive14_any _ (hTb.ext hx0))
  by_cases hl : 2000 < s.size
  · have gl : decide ((2000 : Int) < (s.size : Int)) = true := by simp; omega
    go_enter Tryd.func4, Tryd.ntmps4
    go_wp2_with fail
    refine HAL.out.mono ?_
    rintro e w1 ⟨rfl, hx1⟩
    go_wp2_with fail
    go_ret
    exact ⟨rfl, hx0.trans hx1⟩
  · have gl : decide ((2000 : Int) < (s.size : Int)) = false := by simp; omega
    have h1 := fun W (hW : Ext w W) => spreadW_any fp lp fc lc A s hs p k hp hk W (hA.mono hW) (hTb.ext hW)
    have h2 := fun W (hW : Ext w W) => back_any fp lp fc lc A s hs p k hp hk W (hA.mono hW) (hTb.ext hW)
    have h3 := fun W (hW : Ext w W) => keeps_any fp lp fc lc A s hs p k hp hk W (hA.mono hW) (hTb.ext hW)
    have h4 := fun W (hW : Ext w W) => meet_any fp lp fc lc A s hs p c k hp hc hk W (hA.mono hW) (hTb.ext hW)
    have g1 := fun W (hW : Ext w W) => Spread14_any fp lp fc lc A s hs p k hp hk W (hA.mono hW) (hTb.ext hW)
    have g2 := fun W (hW : Ext w W) => Back14_any fp lp fc lc A s hs p k hp hk W (hA.mono hW) (hTb.ext hW)
    have g3 := fun W (hW : Ext w W) => Keeps14_any fp lp fc lc A s hs p k hp hk W (hA.mono hW) (hTb.ext hW)
    have g4 := fun W (hW : Ext w W) => Meet14_any fp lp fc lc A s hs p c k hp hc hk W (hA.mono hW) (hTb.ext hW)
    obtain ⟨S1, e1⟩ : ∃ x, sprS A s p k = x := ⟨_, rfl⟩
    obtain ⟨S2, e2⟩ : ∃ x, backS A s p k = x := ⟨_, rfl⟩
    obtain ⟨K, e3⟩ : ∃ x, keepsB A s p k = x := ⟨_, rfl⟩
    obtain ⟨S4, e4⟩ : ∃ x, meetS A s p c k = x := ⟨_, rfl⟩
    obtain ⟨E, e5⟩ : ∃ x, signE A s [p, k] = x := ⟨_, rfl⟩
    obtain ⟨E4, e6⟩ : ∃ x, signE A s [p, c, k] = x := ⟨_, rfl⟩
    rw [e1, e5] at h1 g1
    rw [e2, e5] at h2 g2
    rw [e3, e5] at h3 g3
    rw [e4, e6] at h4 g4
    have H1 := Lib.hid h1
    have H2 := Lib.hid h2
    have H3 := Lib.hid h3
    have H4 := Lib.hid h4
    have G1 := Lib.hid g1
    have G2 := Lib.hid g2
    have G3 := Lib.hid g3
    have G4 := Lib.hid g4
    clear h1 h2 h3 h4 g1 g2 g3 g4 e1 e2 e3 e4 e5 e6 hl
    go_enter Tryd.func4, Tryd.ntmps4
    go_wp2_with fail
    refine HAL.out.mono ?_
    rintro e w1 ⟨rfl, hx1⟩
    obtain ⟨d0, d1, l0⟩ := HBX.out _ hx1
    go_wp2_with fail
    refine (H1.out _ (hx0.trans hx1)).mono ?_
    rintro e w2 ⟨rfl, hx2⟩
    have hx2 := hx1.trans hx2
    obtain ⟨d0, d1, l0⟩ := HBX.out _ hx2
    go_wp2_with fail
    refine (H2.out _ (hx0.trans hx2)).mono ?_
    rintro e w3 ⟨rfl, hx3⟩
    have hx3 := hx2.trans hx3
    obtain ⟨d0, d1, l0⟩ := HBX.out _ hx3
    go_wp2_with fail
    refine (H3.out _ (hx0.trans hx3)).mono ?_
    rintro e w4 ⟨rfl, hx4⟩
    have hx4 := hx3.trans hx4
    obtain ⟨d0, d1, l0⟩ := HBX.out _ hx4
    go_wp2_with fail
    refine (H4.out _ (hx0.trans hx4)).mono ?_
    rintro e w5 ⟨rfl, hx5⟩
    have hx5 := hx4.trans hx5
    obtain ⟨d0, d1, l0⟩ := HBX.out _ hx5
    go_wp2_with fail
    refine (G1.out _ (hx0.trans hx5)).mono ?_
    rintro e w6 ⟨rfl, hx6⟩
    have hx6 := hx5.trans hx6
    obtain ⟨d0, d1, l0⟩ := HBX.out _ hx6
    go_wp2_with fail
    refine (G2.out _ (hx0.trans hx6)).mono ?_
    rintro e w7 ⟨rfl, hx7⟩
    have hx7 := hx6.trans hx7
    obtain ⟨d0, d1, l0⟩ := HBX.out _ hx7
    go_wp2_with fail
    refine (G3.out _ (hx0.trans hx7)).mono ?_
    rintro e w8 ⟨rfl, hx8⟩
    have hx8 := hx7.trans hx8
    obtain ⟨d0, d1, l0⟩ := HBX.out _ hx8
    go_wp2_with fail
    refine (G4.out _ (hx0.trans hx8)).mono ?_
    rintro e w9 ⟨rfl, hx9⟩
    have hx9 := hx8.trans hx9
    go_wp2_with fail
    go_ret
    exact ⟨rfl, hx0.trans hx9⟩

end Go.Proofs.YtcnjgfadihimiaaDoor
