/- The law FeatureFar holds (its walk). -/
import Derived.Test.YtppbjeipfopehaaDoorFeli
namespace Go.Proofs.YtppbjeipfopehaaDoor
open Go.RowKit Go.Cg Go.Shelf Go.Maps

theorem farN_32 (A : Alpha) (x y : Int) : farN A x y ≤ 32 := by
  unfold farN; split
  · exact pop_le _ _
  · omega
theorem farN_feats {A : Alpha} (x y : Int) (h : farE A x y = 0) : farN A x y ≤ A.feats.length := by
  obtain ⟨h1, h2⟩ := farE_zero h
  have hok : A.Ok := by
    rcases ofE_cases A x with ⟨_, k, _⟩ | ⟨_, k, _⟩ | ⟨k, _⟩
    · exact k
    · exact k
    · omega
  have l1 := ofL_lt hok x
  have l2 := ofL_lt hok y
  unfold farN; rw [if_pos h]
  exact unlikeN_le hok.1 l1.1 l1.2.1 l2.1 l2.2.1
theorem farN_tri {A : Alpha} {x y z : Int} (h1 : farE A x y = 0) (h2 : farE A x z = 0) (h3 : farE A z y = 0) : farN A x y ≤ farN A x z + farN A z y := by
  unfold farN; rw [if_pos h1, if_pos h2, if_pos h3]
  exact unlikeN_tri _ _ _ _ _ _

set_option maxRecDepth 100000 in
set_option maxHeartbeats 4000000 in
theorem featureFar_any (fp lp : Option Addr) (fc lc : Nat) (A : Alpha) (x y z : Int) (w : World) (hA : AlphaAt w fp lp A) :
    Calls Tryd.prog 6 #[.agg #[.slice fp A.feats.length fc, .slice lp A.lets.length lc], .int .i32 x, .int .i32 y, .int .i32 z] w fun e w' => e = .returned (.bool true) ∧ Ext w w' := by
  have hx0 : Ext w (w.alloc (.cells #[.slice fp A.feats.length fc, .slice lp A.lets.length lc] 26)) := (Ext.refl _).alloc _
  have hb0 : Ext (w.alloc (.cells #[.slice fp A.feats.length fc, .slice lp A.lets.length lc] 26)) (w.alloc (.cells #[.slice fp A.feats.length fc, .slice lp A.lets.length lc] 26)) := Ext.refl _
  have hfb := hA.fbig
  have HF := Lib.hid (fun W (hW : Ext w W) x y => far_any fp lp fc lc A x y W (hA.mono hW))
  have HO := Lib.hid (fun W (hW : Ext w W) r => of_any fp lp fc lc A r W (hA.mono hW))
  have l1 := farN_32 A x y
  have l2 := farN_32 A x z
  have l3 := farN_32 A z y
  have cE := farE_comm A y x
  have cN := farN_comm A y x
  have hfeat := fun h => farN_feats (A := A) x y h
  have htri := fun h1 h2 h3 => farN_tri (A := A) (x := x) (y := y) (z := z) h1 h2 h3
  have hzero : farE A x y = 0 → (farN A x y = 0 ↔ (ofL A x).plus = (ofL A y).plus ∧ (ofL A x).minus = (ofL A y).minus) := fun h => by
    obtain ⟨_, _, w1, w2⟩ := ofL_wf hA.wf x
    obtain ⟨_, _, w3, w4⟩ := ofL_wf hA.wf y
    unfold farN; rw [if_pos h]; exact unlikeN_zero w1 w2 w3 w4
  have hnz : farE A x y ≠ 0 → farN A x y = 0 := fun h => by unfold farN; rw [if_neg h]
  have hEz : farE A x y = 0 → ofE A x = 0 ∧ ofE A y = 0 := fun h => farE_zero h
  have Hfeat := Lib.hid hfeat
  have Htri := Lib.hid htri
  have Hzero := Lib.hid hzero
  have HEz := Lib.hid hEz
  clear hfeat htri hzero hEz
  go_enter Tryd.func6, Tryd.ntmps6
  go_wp2_with fail
  refine (alive_any _).mono ?_
  rintro e w1 ⟨rfl, hx1⟩
  have hb1 := hb0.trans hx1
  have hk1 := hx0.trans hx1
  have d0 := hb1.cell0 0
  have d1 := hb1.cell0 1
  simp only [List.getElem?_toArray, List.getElem?_cons_zero, List.getElem?_cons_succ] at d0 d1
  have hs := hb1.lt0
  go_wp2_with fail
  clear d0 d1 hs
  refine (HF.out _ hk1 x y).mono ?_
  rintro e w2 ⟨rfl, hx2⟩
  have hb2 := hb1.trans hx2
  have hk2 := hk1.trans hx2
  have d0 := hb2.cell0 0
  have d1 := hb2.cell0 1
  simp only [List.getElem?_toArray, List.getElem?_cons_zero, List.getElem?_cons_succ] at d0 d1
  have hs := hb2.lt0
  go_wp2_with fail
  clear d0 d1 hs
  refine (HF.out _ hk2 y x).mono ?_
  rw [cE, cN]
  rintro e w3 ⟨rfl, hx3⟩
  have hb3 := hb2.trans hx3
  have hk3 := hk2.trans hx3
  have d0 := hb3.cell0 0
  have d1 := hb3.cell0 1
  simp only [List.getElem?_toArray, List.getElem?_cons_zero, List.getElem?_cons_succ] at d0 d1
  have hs := hb3.lt0
  go_wp2_with fail
  clear d0 d1 hs
  refine (HF.out _ hk3 x z).mono ?_
  rintro e w4 ⟨rfl, hx4⟩
  have hb4 := hb3.trans hx4
  have hk4 := hk3.trans hx4
  have d0 := hb4.cell0 0
  have d1 := hb4.cell0 1
  simp only [List.getElem?_toArray, List.getElem?_cons_zero, List.getElem?_cons_succ] at d0 d1
  have hs := hb4.lt0
  go_wp2_with fail
  clear d0 d1 hs
  refine (HF.out _ hk4 z y).mono ?_
  rintro e w5 ⟨rfl, hx5⟩
  have hb5 := hb4.trans hx5
  have hk5 := hk4.trans hx5
  by_cases h0 : farE A x y = 0
  · obtain ⟨hx, hy⟩ := HEz.out h0
    have hle := Hfeat.out h0
    have Hz := Hzero.out h0
    clear hnz
    rw [h0]
    have d0 := hb5.cell0 0
    have d1 := hb5.cell0 1
    simp only [List.getElem?_toArray, List.getElem?_cons_zero, List.getElem?_cons_succ] at d0 d1
    have hs := hb5.lt0
    go_wp2_with fail
    refine (HO.out _ hk5 x).mono ?_
    rw [hx]
    rintro e w6 ⟨rfl, hx6⟩
    have hb6 := (hb5.trans hx6).alloc (.cells #[.int .i32 (ofL A x).rune, .int .u32 ((ofL A x).plus : Int), .int .u32 ((ofL A x).minus : Int)] 35)
    have hk6 := (hk5.trans hx6).alloc (.cells #[.int .i32 (ofL A x).rune, .int .u32 ((ofL A x).plus : Int), .int .u32 ((ofL A x).minus : Int)] 35)
    clear d0 d1 hs
    have d0 := hb6.cell0 0
    have d1 := hb6.cell0 1
    simp only [List.getElem?_toArray, List.getElem?_cons_zero, List.getElem?_cons_succ] at d0 d1
    have hs := hb6.lt0
    go_wp2_with fail
    clear d0 d1 hs
    refine (HO.out _ hk6 y).mono ?_
    rw [hy]
    rintro e w7 ⟨rfl, hx7⟩
    have g1 := hx7.cell0 1
    have g2 := hx7.cell0 2
    simp only [List.getElem?_toArray, List.getElem?_cons_zero, List.getElem?_cons_succ] at g1 g2
    have hg := hx7.lt0
    have hk7 := (hk6.trans hx7).alloc (.cells #[.int .i32 (ofL A y).rune, .int .u32 ((ofL A y).plus : Int), .int .u32 ((ofL A y).minus : Int)] 35)
    by_cases hp : (ofL A x).plus = (ofL A y).plus
    · have p1 : (((ofL A x).plus : Int) == ((ofL A y).plus : Int)) = true := by rw [beq_iff_eq, hp]
      by_cases hm : (ofL A x).minus = (ofL A y).minus
      · have p2 : (((ofL A x).minus : Int) == ((ofL A y).minus : Int)) = true := by rw [beq_iff_eq, hm]
        have hz : farN A x y = 0 := Hz.2 ⟨hp, hm⟩
        clear hp hm Hz
        have q1 : ((farN A x y : Int) == 0) = true := by rw [hz]; rfl
        rw [hz] at q1 l1 hle
        rw [hz]
        by_cases e1 : farE A x z = 0
        · by_cases e2 : farE A z y = 0
          · have r3 := Htri.out h0 e1 e2
            rw [e1, e2]
            have r4 : decide ((farN A x y : Int) ≤ (farN A x z : Int) + (farN A z y : Int)) = true := by simp; omega
            go_wp2_with fail
            go_ret
            exact ⟨rfl, hk7⟩
          · have r2 : (farE A z y != 0) = true := by rw [bne_iff_ne]; exact e2
            rw [e1]
            go_wp2_with fail
            go_ret
            exact ⟨rfl, hk7⟩
        · have r1 : (farE A x z != 0) = true := by rw [bne_iff_ne]; exact e1
          go_wp2_with fail
          go_ret
          exact ⟨rfl, hk7⟩
      · have p2 : (((ofL A x).minus : Int) == ((ofL A y).minus : Int)) = false := by rw [beq_eq_false_iff_ne]; omega
        have hz : ((farN A x y : Int) == 0) = false := by rw [beq_eq_false_iff_ne]; intro h; exact hm (Hz.1 (by omega)).2
        clear hp hm Hz
        by_cases e1 : farE A x z = 0
        · by_cases e2 : farE A z y = 0
          · have r3 := Htri.out h0 e1 e2
            rw [e1, e2]
            have r4 : decide ((farN A x y : Int) ≤ (farN A x z : Int) + (farN A z y : Int)) = true := by simp; omega
            go_wp2_with fail
            go_ret
            exact ⟨rfl, hk7⟩
          · have r2 : (farE A z y != 0) = true := by rw [bne_iff_ne]; exact e2
            rw [e1]
            go_wp2_with fail
            go_ret
            exact ⟨rfl, hk7⟩
        · have r1 : (farE A x z != 0) = true := by rw [bne_iff_ne]; exact e1
          go_wp2_with fail
          go_ret
          exact ⟨rfl, hk7⟩
    · have p1 : (((ofL A x).plus : Int) == ((ofL A y).plus : Int)) = false := by rw [beq_eq_false_iff_ne]; omega
      have hz : ((farN A x y : Int) == 0) = false := by rw [beq_eq_false_iff_ne]; intro h; exact hp (Hz.1 (by omega)).1
      clear hp Hz
      by_cases e1 : farE A x z = 0
      · by_cases e2 : farE A z y = 0
        · have r3 := Htri.out h0 e1 e2
          rw [e1, e2]
          have r4 : decide ((farN A x y : Int) ≤ (farN A x z : Int) + (farN A z y : Int)) = true := by simp; omega
          go_wp2_with fail
          go_ret
          exact ⟨rfl, hk7⟩
        · have r2 : (farE A z y != 0) = true := by rw [bne_iff_ne]; exact e2
          rw [e1]
          go_wp2_with fail
          go_ret
          exact ⟨rfl, hk7⟩
      · have r1 : (farE A x z != 0) = true := by rw [bne_iff_ne]; exact e1
        go_wp2_with fail
        go_ret
        exact ⟨rfl, hk7⟩
  · have hm0 := hnz h0
    have hne : (farE A x y != 0) = true := by rw [bne_iff_ne]; exact h0
    rw [hm0]
    go_wp2_with fail
    go_ret
    exact ⟨rfl, hk5⟩
end Go.Proofs.YtppbjeipfopehaaDoor
