/- Contracts: feature.Has, Class, Far. -/
import Derived.Test.YtcnhlogkhnoacaaGreatDoorFeatg
namespace Go.Proofs.YtcnhlogkhnoacaaGreatDoor
open Go.RowKit Go.Cg Go.Shelf Go.Maps

set_option maxHeartbeats 800000 in
theorem far_any (fp lp : Option Addr) (fc lc : Nat) (A : Alpha) (x y : Int) (w : World) (hA : AlphaAt w fp lp A) :
    Calls Tryz.prog 101 #[.agg #[.slice fp A.feats.length fc, .slice lp A.lets.length lc], .int .i32 x, .int .i32 y] w fun e w' => e = .returned (.tuple #[.int .i64 (farN A x y : Nat), .int .i64 (farE A x y)]) ∧ Ext w w' := by
  have hx3 : Ext w (w.alloc (.cells #[.slice fp A.feats.length fc, .slice lp A.lets.length lc] 25)) := (Ext.refl _).alloc _
  obtain ⟨_, _, wf3, wf4⟩ := ofL_wf hA.wf x
  obtain ⟨_, _, wf5, wf6⟩ := ofL_wf hA.wf y
  have hcon := fun (W : World) (hW : Ext w W) (r : Int) => of_any fp lp fc lc A r W (hA.mono hW)
  have HC := Lib.hid hcon
  clear hcon
  by_cases h0 : ofE A x = 0
  · by_cases h1 : ofE A y = 0
    · have hE : farE A x y = 0 := by unfold farE; rw [if_pos h0, h1]
      have hB : farN A x y = unlikeN (ofL A x).plus (ofL A x).minus (ofL A y).plus (ofL A y).minus := by unfold farN; rw [hE]; rfl
      have HB := Lib.hid hB; clear hB
      have HE := Lib.hid hE; clear hE
      go_enter Tryz.func101, Tryz.ntmps101
      go_wp2_with fail
      refine (HC.out _ hx3 _).mono ?_
      rintro e w1 ⟨rfl, hx1⟩
      have hs1 := hx1.lt0
      have d0 := hx1.cell0 0
      have d1 := hx1.cell0 1
      simp at d0 d1
      go_wp2_with fail
      refine (HC.out _ ((hx3.trans hx1).alloc _) _).mono ?_
      rintro e w2 ⟨rfl, hx2⟩
      have hs2 := hx2.lt0
      have e0 := hx2.cell0 0
      have e1 := hx2.cell0 1
      have e2 := hx2.cell0 2
      simp at e0 e1 e2
      go_wp2_with (first | (go_at_call 141; refine (unlike_any _ _ _ _ _ _ wf3 wf4 wf5 wf6 _).mono ?_; rintro e w3 ⟨rfl, hx4⟩))
      go_ret2
      exact ⟨by rw [HB.out, HE.out]; first | done | rfl, (by repeat (first | assumption | exact Ext.refl _ | refine Ext.alloc ?_ _ | refine Ext.drew ?_ | refine Ext.drewN ?_ _ | refine Ext.setCell ?_ (by first | (simp; done) | (simp; omega) | omega) _ | (refine Ext.trans ?_ (by assumption))))⟩
    · have hE : farE A x y = ofE A y := by unfold farE; rw [if_pos h0]
      have hB : farN A x y = 0 := by unfold farN; rw [hE, if_neg h1]
      have hne : (ofE A y != 0) = true := by rw [bne_iff_ne]; exact h1
      have HB := Lib.hid hB; clear hB
      have HE := Lib.hid hE; clear hE
      go_enter Tryz.func101, Tryz.ntmps101
      go_wp2_with fail
      refine (HC.out _ hx3 _).mono ?_
      rintro e w1 ⟨rfl, hx1⟩
      have hs1 := hx1.lt0
      have d0 := hx1.cell0 0
      have d1 := hx1.cell0 1
      simp at d0 d1
      go_wp2_with fail
      refine (HC.out _ ((hx3.trans hx1).alloc _) _).mono ?_
      rintro e w2 ⟨rfl, hx2⟩
      go_wp2_with fail
      go_ret2
      exact ⟨by rw [HB.out, HE.out]; first | done | rfl, (by repeat (first | assumption | exact Ext.refl _ | refine Ext.alloc ?_ _ | refine Ext.drew ?_ | refine Ext.drewN ?_ _ | refine Ext.setCell ?_ (by first | (simp; done) | (simp; omega) | omega) _ | (refine Ext.trans ?_ (by assumption))))⟩
  · have hne : (ofE A x != 0) = true := by rw [bne_iff_ne]; exact h0
    have hE : farE A x y = ofE A x := by unfold farE; rw [if_neg h0]
    have hB : farN A x y = 0 := by unfold farN; rw [hE, if_neg h0]
    have HB := Lib.hid hB; clear hB
    have HE := Lib.hid hE; clear hE
    go_enter Tryz.func101, Tryz.ntmps101
    go_wp2_with fail
    refine (HC.out _ hx3 _).mono ?_
    rintro e w1 ⟨rfl, hx1⟩
    go_wp2_with fail
    go_ret2
    exact ⟨by rw [HB.out, HE.out]; first | done | rfl, (by repeat (first | assumption | exact Ext.refl _ | refine Ext.alloc ?_ _ | refine Ext.drew ?_ | refine Ext.drewN ?_ _ | refine Ext.setCell ?_ (by first | (simp; done) | (simp; omega) | omega) _ | (refine Ext.trans ?_ (by assumption))))⟩

end Go.Proofs.YtcnhlogkhnoacaaGreatDoor
