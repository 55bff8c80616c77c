/- Contracts: feature.Has, Class, Far. -/
import Derived.Test.YtcnjgfadihimiaaDoorFeatg
namespace Go.Proofs.YtcnjgfadihimiaaDoor
open Go.RowKit Go.Cg Go.Shelf Go.Maps

set_option maxHeartbeats 800000 in
theorem has_any (fp lp : Option Addr) (fc lc : Nat) (A : Alpha) (r : Int) (p m : Nat) (hp : p < 4294967296) (hm : m < 4294967296) (w : World) (hA : AlphaAt w fp lp A) :
    Calls Tryd.prog 25 #[.agg #[.slice fp A.feats.length fc, .slice lp A.lets.length lc], .int .i32 r, .int .u32 p, .int .u32 m] w fun e w' => e = .returned (.tuple #[.bool (hasB A r p m), .int .i64 (hasE A r p m)]) ∧ Ext w w' := by
  have hx3 : Ext w (w.alloc (.cells #[.slice fp A.feats.length fc, .slice lp A.lets.length lc] 26)) := (Ext.refl _).alloc _
  obtain ⟨_, _, wf3, wf4⟩ := ofL_wf hA.wf r
  have hfb := hA.fbig
  by_cases h0 : ofE A r = 0
  · cases hmay : mayB A.feats.length p m
    · have hB : hasB A r p m = false := by unfold hasB hasE; rw [if_pos h0, hmay]; rfl
      have hE : hasE A r p m = 20 := by unfold hasE; rw [if_pos h0, hmay]; rfl
      have HB := Lib.hid hB; clear hB
      have HE := Lib.hid hE; clear hE
      go_enter Tryd.func25, Tryd.ntmps25
      go_wp2_with (first | (go_at_call 49; refine (of_any _ _ _ _ _ _ _ (hA.mono hx3)).mono ?_; rintro e w1 ⟨rfl, hx1⟩; have hs1 := hx1.lt0; have d0 := hx1.cell0 0; have d1 := hx1.cell0 1; simp at d0 d1) | (go_at_call 50; refine (within_any _ _ _ _ _ _ hp hm hfb _).mono ?_; rintro e w2 ⟨rfl, hx2⟩))
      go_ret2
      exact ⟨by rw [HB.out, HE.out]; first | done | rfl, (by repeat (first | assumption | exact Ext.refl _ | refine Ext.alloc ?_ _ | refine Ext.drew ?_ | refine Ext.drewN ?_ _ | refine Ext.setCell ?_ (by first | (simp; done) | (simp; omega) | omega) _ | (refine Ext.trans ?_ (by assumption))))⟩
    · have hB : hasB A r p m = likeB (ofL A r).plus (ofL A r).minus p m := by unfold hasB hasE; rw [if_pos h0, hmay]; simp
      have hE : hasE A r p m = 0 := by unfold hasE; rw [if_pos h0, hmay]; rfl
      have HB := Lib.hid hB; clear hB
      have HE := Lib.hid hE; clear hE
      go_enter Tryd.func25, Tryd.ntmps25
      go_wp2_with (first | (go_at_call 49; refine (of_any _ _ _ _ _ _ _ (hA.mono hx3)).mono ?_; rintro e w1 ⟨rfl, hx1⟩; have hs1 := hx1.lt0; have d0 := hx1.cell0 0; have d1 := hx1.cell0 1; simp at d0 d1) | (go_at_call 50; refine (within_any _ _ _ _ _ _ hp hm hfb _).mono ?_; rintro e w2 ⟨rfl, hx2⟩; have e0 := hx2.cell0 0; have e1 := hx2.cell0 1; have e2 := hx2.cell0 2; simp at e0 e1 e2) | (go_at_call 51; refine (like_any _ _ _ _ _ wf3 wf4 hp hm _).mono ?_; rintro e w3 ⟨rfl, hx4⟩))
      go_ret2
      exact ⟨by rw [HB.out, HE.out]; first | done | rfl, (by repeat (first | assumption | exact Ext.refl _ | refine Ext.alloc ?_ _ | refine Ext.drew ?_ | refine Ext.drewN ?_ _ | refine Ext.setCell ?_ (by first | (simp; done) | (simp; omega) | omega) _ | (refine Ext.trans ?_ (by assumption))))⟩
  · have hne : (ofE A r != 0) = true := by rw [bne_iff_ne]; exact h0
    have hB : hasB A r p m = false := by unfold hasB hasE; rw [if_neg h0]; simp [h0]
    have hE : hasE A r p m = ofE A r := by unfold hasE; rw [if_neg h0]
    have HB := Lib.hid hB; clear hB
    have HE := Lib.hid hE; clear hE
    go_enter Tryd.func25, Tryd.ntmps25
    go_wp2_with (first | (go_at_call 49; refine (of_any _ _ _ _ _ _ _ (hA.mono hx3)).mono ?_; rintro e w1 ⟨rfl, hx1⟩))
    go_ret2
    exact ⟨by rw [HB.out, HE.out]; first | done | rfl, (by repeat (first | assumption | exact Ext.refl _ | refine Ext.alloc ?_ _ | refine Ext.drew ?_ | refine Ext.drewN ?_ _ | refine Ext.setCell ?_ (by first | (simp; done) | (simp; omega) | omega) _ | (refine Ext.trans ?_ (by assumption))))⟩

end Go.Proofs.YtcnjgfadihimiaaDoor
