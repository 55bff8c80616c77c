/- Contract of the reference's Least. -/
import Derived.Test.YtppbjeipfopehaaDoorFele
namespace Go.Proofs.YtppbjeipfopehaaDoor
open Go.RowKit Go.Cg Go.Shelf Go.Maps

set_option maxRecDepth 100000 in
set_option maxHeartbeats 40000000 in
theorem Least02_any (fp lp rp : Option Addr) (fc lc rc : Nat) (A : Alpha) (l : List Int) (w : World) (hA : AlphaAt w fp lp A) (hR : RunesAt w rp l) :
    Calls Tryd.prog 32 #[.agg #[.slice fp A.feats.length fc, .slice lp A.lets.length lc], .slice rp l.length rc] w fun e w' => e = .returned (.tuple #[.int .u32 (leastP A l : Nat), .int .u32 (leastM A l : Nat), .int .i64 (leastE A l)]) ∧ Ext w w' := by
  have hx3 : Ext w (w.alloc (.cells #[.slice fp A.feats.length fc, .slice lp A.lets.length lc] 26)) := (Ext.refl _).alloc _
  have hrb := hR.big
  have hfb := hA.fbig
  have HK := asked_any fp lp none fc lc 0 A [] _ (hA.mono hx3) (RunesAt.nil _)
  rw [asked_nil] at HK
  by_cases hok : A.Ok
  · rw [if_pos hok] at HK
    by_cases h1 : 128 < l.length
    · have hE : leastE A l = 4 := by unfold leastE; rw [if_pos hok, if_pos h1]
      have hP : leastP A l = 0 := by unfold leastP; rw [if_neg (by omega)]
      have hM : leastM A l = 0 := by unfold leastM; rw [if_neg (by omega)]
      rw [hE, hP, hM]
      go_enter Tryd.func32, Tryd.ntmps32
      go_wp2_with (first | (go_at_call 46; refine HK.mono ?_; rintro e w1 ⟨rfl, hx1⟩))
      go_ret3
      exact ⟨rfl, hx3.trans hx1⟩
    · have HL := Lib.hid (fun W (hW : Ext w W) => asked_any fp lp rp fc lc rc A l W (hA.mono hW) (hR.mono hW))
      by_cases hall : ∀ i, i < l.length → 0 ≤ findLetter A (rn l i)
      · have ha : askedN A l = 0 := by rw [asked_list, if_pos hok, if_pos hall]
        rw [ha] at HL
        by_cases h2 : l.length = 0
        · have hE : leastE A l = 8 := by unfold leastE; rw [if_pos hok, if_neg h1, if_pos h2]
          have hP : leastP A l = 0 := by unfold leastP; rw [if_neg (by omega)]
          have hM : leastM A l = 0 := by unfold leastM; rw [if_neg (by omega)]
          rw [hE, hP, hM]
          obtain rfl := List.eq_nil_of_length_eq_zero h2
          go_enter Tryd.func32, Tryd.ntmps32
          go_wp2_with fail
          refine HK.mono ?_; rintro e w1 ⟨rfl, hx1⟩
          have d0 := hx1.cell0 0; have d1 := hx1.cell0 1; simp at d0 d1; have hs1 := hx1.lt0
          go_wp2_with fail
          refine (HL.out _ (hx3.trans hx1)).mono ?_; rintro e w2 ⟨rfl, hx2⟩
          go_wp2_with fail
          go_ret3
          exact ⟨rfl, (hx3.trans hx1).trans hx2⟩
        · have hz : ((l.length : Int) == 0) = false := by rw [beq_eq_false_iff_ne]; omega
          have hE : leastE A l = 0 := by unfold leastE; rw [if_pos hok, if_neg h1, if_neg h2, if_pos hall]
          obtain ⟨n, hn⟩ : ∃ n, l.length = n + 1 := ⟨l.length - 1, by omega⟩
          have hP : leastP A l = landP A l (maskN A.feats.length) l.length := by unfold leastP; rw [if_pos hE, hn, landP_mask hok]
          have hM : leastM A l = landM A l (maskN A.feats.length) l.length := by unfold leastM; rw [if_pos hE, hn, landM_mask hok]
          rw [hE, hP, hM]
          clear hn
          have HALL := Lib.hid hall
          clear hall hE hP hM
          go_enter Tryd.func32, Tryd.ntmps32
          go_wp2_with fail
          refine HK.mono ?_; rintro e w1 ⟨rfl, hx1⟩
          have d0 := hx1.cell0 0; have d1 := hx1.cell0 1; simp at d0 d1; have hs1 := hx1.lt0
          go_wp2_with fail
          refine (HL.out _ (hx3.trans hx1)).mono ?_; rintro e w2 ⟨rfl, hx2⟩
          have hxb := hx1.trans hx2
          have d0 := hxb.cell0 0; have d1 := hxb.cell0 1; simp at d0 d1; have hs1 := hxb.lt0
          go_wp2_with fail
          refine (all_any _ _ _ _ hfb _).mono ?_; rintro e w3 ⟨rfl, hx3'⟩
          have hxc := hxb.trans hx3'
          have d0 := hxc.cell0 0; have d1 := hxc.cell0 1; simp at d0 d1; have hs1 := hxc.lt0
          go_wp2_with fail
          refine (all_any _ _ _ _ hfb _).mono ?_; rintro e w4 ⟨rfl, hx4⟩
          have hxd := hxc.trans hx4
          clear d0 d1 hs1 hxc hxb HL HK
          go_wp2_with fail
          have hmk := maskN_lt A.feats.length
          generalize hmkE : maskN A.feats.length = mk at *
          go_loopw [8, 9, 10] (fun p m i wr => ∃ k : Nat, k ≤ l.length ∧ p = .int .u32 (landP A l mk k : Nat) ∧ m = .int .u32 (landM A l mk k : Nat) ∧ i = .int .i64 k ∧ Ext (w.alloc (.cells #[.slice fp A.feats.length fc, .slice lp A.lets.length lc] 26)) wr) (fun _ _ i _ => l.length - (intOf i).toNat)
          case atStart => exact ⟨0, Nat.zero_le _, rfl, rfl, rfl, hxd⟩
          case round =>
            clear hxd
            obtain ⟨k, hk, rfl, rfl, rfl, hx⟩ := hrel
            have hx0 := hx.box
            have hlw := hx.lt0
            have d0 := hx.cell0 0; have d1 := hx.cell0 1; simp at d0 d1
            have lP := landP_lt A l mk hmk k
            have lM := landM_lt A l mk hmk k
            by_cases hlt : k < l.length
            · obtain ⟨b, off, rfl, hbw, c0⟩ := (hR.mono hx0).cells hlt
              obtain ⟨i, hi, hil, -⟩ := findLetter_some (HALL.out k hlt)
              have hO := ofL_ok hok hi
              obtain ⟨_, _, wf3, wf4⟩ := hA.wf i hil
              have e1 := Lib.hid (u32_and_nat _ _ lP wf3)
              have e2 := Lib.hid (u32_and_nat _ _ lM wf4)
              have hsP : landP A l mk (k + 1) = landP A l mk k &&& (A.at_ i).plus := by rw [landP, hO]
              have hsM : landM A l mk (k + 1) = landM A l mk k &&& (A.at_ i).minus := by rw [landM, hO]
              obtain ⟨b2, off2, rfl, hbw2⟩ := hA.lsome (by omega)
              have hAW := hA.mono hx0
              obtain ⟨_, q0, q1, q2⟩ := hAW.lcell hil
              have HF := Lib.hid (fun W (hW : Ext wr W) => Find_any fp (some ⟨b2, off2, none⟩) fc lc A (rn l k) W (hAW.mono hW))
              rw [hi] at HF
              clear hi hO
              go_wp2_with fail
              have hxR := Ext.refl wr
              go_region_with (go_at_call 47; refine (HF.out _ (by repeat (first | assumption | exact Ext.refl _ | refine Ext.alloc ?_ _ | refine Ext.drew ?_ | refine Ext.drewN ?_ _ | refine Ext.setCell ?_ (by first | (simp; done) | (simp; omega) | omega) _ | (refine Ext.trans ?_ (by assumption))))).mono ?_; rintro e w5 ⟨rfl, hx5⟩; have hq5 : Ext wr w5 := (by repeat (first | assumption | exact Ext.refl _ | refine Ext.alloc ?_ _ | refine Ext.drew ?_ | refine Ext.drewN ?_ _ | refine Ext.setCell ?_ (by first | (simp; done) | (simp; omega) | omega) _ | (refine Ext.trans ?_ (by assumption)))); (try (have hz : Ext (wr.alloc (.cells #[.int .i32 0, .int .u32 0, .int .u32 0] 35)) w5 := ((Ext.refl _).drew).trans hx5; have z0 := hz.cell0 0; have z1 := hz.cell0 1; have z2 := hz.cell0 2; have y0 := hz.froz0 0; have y1 := hz.froz0 1; have y2 := hz.froz0 2; simp at z0 z1 z2 y0 y1 y2)); clear hx5; have l5 := (hx.trans hq5).lt0; obtain ⟨l6, r0, r1, r2⟩ := (hAW.mono hq5).lcell hil; have t0 := (hx.trans hq5).cell0 0; have t1 := (hx.trans hq5).cell0 1; simp at t0 t1)
              all_goals (go_wp2_with fail; exact ⟨⟨k + 1, by omega, by rw [hsP, e1.out], by rw [hsM, e2.out], by go_num, hx.trans (by repeat (first | assumption | exact Ext.refl _ | refine Ext.alloc ?_ _ | refine Ext.drew ?_ | refine Ext.drewN ?_ _ | refine Ext.setCell ?_ (by first | (simp; done) | (simp; omega) | omega) _ | (refine Ext.trans ?_ (by assumption))))⟩, by simp [intOf]; omega⟩)
            · have e : k = l.length := by omega
              go_wp2_with fail
              go_ret3
              exact ⟨by rw [← e, hmkE]; rfl, hx0⟩
      · have ha : askedN A l = 5 := by rw [asked_list, if_pos hok, if_neg hall]
        have hz : ¬ l.length = 0 := fun h => hall fun i hi => by omega
        have hE : leastE A l = 5 := by unfold leastE; rw [if_pos hok, if_neg h1, if_neg hz, if_neg hall]
        have hP : leastP A l = 0 := by unfold leastP; rw [if_neg (by omega)]
        have hM : leastM A l = 0 := by unfold leastM; rw [if_neg (by omega)]
        rw [hE, hP, hM]
        rw [ha] at HL
        go_enter Tryd.func32, Tryd.ntmps32
        go_wp2_with fail
        refine HK.mono ?_; rintro e w1 ⟨rfl, hx1⟩
        have d0 := hx1.cell0 0; have d1 := hx1.cell0 1; simp at d0 d1; have hs1 := hx1.lt0
        go_wp2_with fail
        refine (HL.out _ (hx3.trans hx1)).mono ?_; rintro e w2 ⟨rfl, hx2⟩
        go_wp2_with fail
        go_ret3
        exact ⟨rfl, (hx3.trans hx1).trans hx2⟩
  · rw [if_neg hok] at HK
    have hE : leastE A l = 7 := by unfold leastE; rw [if_neg hok]
    have hP : leastP A l = 0 := by unfold leastP; rw [if_neg (by omega)]
    have hM : leastM A l = 0 := by unfold leastM; rw [if_neg (by omega)]
    rw [hE, hP, hM]
    go_enter Tryd.func32, Tryd.ntmps32
    go_wp2_with (first | (go_at_call 46; refine HK.mono ?_; rintro e w1 ⟨rfl, hx1⟩))
    go_ret3
    exact ⟨rfl, hx3.trans hx1⟩

end Go.Proofs.YtppbjeipfopehaaDoor
