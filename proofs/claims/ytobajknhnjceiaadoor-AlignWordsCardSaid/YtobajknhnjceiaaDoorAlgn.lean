/- Contracts: cognateref21.First, two, Words, Many. -/
import Derived.Test.YtobajknhnjceiaaDoorAlgr
import Derived.Test.YtobajknhnjceiaaDoorAlgf
import Derived.Deep.RegionHeld3
namespace Go.Proofs.YtobajknhnjceiaaDoor
open Go.RowKit Go.Cg Go.Shelf Go.Maps

set_option maxRecDepth 100000 in
set_option maxHeartbeats 8000000 in
theorem first21_any (fp lp xp yp : Option Addr) (fc lc xc yc : Nat) (A : Alpha) (x y : List Int) (hx : x.length ≤ 64) (hy : y.length ≤ 64) (hx0 : ∀ r ∈ x, r ≠ 0) (hy0 : ∀ r ∈ y, r ≠ 0) (w : World) (hA : AlphaAt w fp lp A) (hX : RunesAt w xp x) (hY : RunesAt w yp y) :
    Calls Tryd.prog 62 #[.agg #[.slice fp A.feats.length fc, .slice lp A.lets.length lc], .slice xp x.length xc, .slice yp y.length yc] w fun e w' => ∃ p c, e = .returned (.slice p (fst1 (farC A) x y).length c) ∧ OwnPairs 44 w.heap.size w' p c (fst1 (farC A) x y) ∧ Ext w w' := by
  have hx3 : Ext w (w.alloc (.cells #[.slice fp A.feats.length fc, .slice lp A.lets.length lc] 25)) := (Ext.refl _).alloc _
  obtain ⟨i0, hi, hz0, hz1, hz2⟩ := info_parts infoPa
  have HBX := Lib.hid (fun W (hW : Ext (w.alloc (.cells #[.slice fp A.feats.length fc, .slice lp A.lets.length lc] 25)) W) => (⟨hW.cell0 0, hW.cell0 1, hW.lt0⟩ : W.cell? ⟨w.heap.size, 0, none⟩ = some (.slice fp A.feats.length fc) ∧ W.cell? ⟨w.heap.size, 1, none⟩ = some (.slice lp A.lets.length lc) ∧ w.heap.size < W.heap.size))
  have hta := table_any fp lp xp yp fc lc xc yc A x y hx hy hx0 hy0 _ (hA.mono hx3) (hX.mono hx3) (hY.mono hx3)
  have hwf := fst1_wf (farC A) hX hY
  obtain ⟨F, hF⟩ : ∃ F, fst1 (farC A) x y = F := ⟨_, rfl⟩
  have hF0 : tf (farC A) x y 0 0 = F := hF
  have hFe := tf_end (farC A) x y
  have HFL := Lib.hid (fun k hk => tf_left (farC A) y (i := k) (x := x) hk)
  have HFR := Lib.hid (fun k hk => tf_right (farC A) x (k := k) (y := y) hk)
  have HFB := Lib.hid (fun i k (hi : i < x.length) (hk : k < y.length) => tf_both (farC A) (x := x) (y := y) (i := i) (k := k) hi hk)
  have HCL := Lib.hid (fun i k => tc_le (farC A) hx hy i k)
  have HCe := Lib.hid (fun k hk => tc_left (farC A) y (i := k) (x := x) hk)
  rw [hF] at hwf ⊢
  clear hF
  obtain ⟨T, hTf⟩ : ∃ T, tf (farC A) x y = T := ⟨_, rfl⟩
  rw [hTf] at hF0 hFe HFL HFR HFB
  obtain ⟨c, hc⟩ : ∃ c, tc (farC A) x y = c := ⟨_, rfl⟩
  rw [hc] at hta HFB HCL HCe
  obtain ⟨m, hm⟩ : ∃ m, tm (farC A) x y = m := ⟨_, rfl⟩
  rw [hm] at hta
  clear hTf hc hm
  have HTA := Lib.hid hta
  have HWF := Lib.hid hwf
  have HFE := Lib.hid hFe
  have HF0 := Lib.hid hF0
  have HFA := Lib.hid (fun i k (hi : i < x.length) (hk : k < y.length) W (hW : Ext w W) => Of21_any fp lp fc lc A (rn x i) (rn y k) (hX.wf i hi) (hY.wf k hk) W (hA.mono hW))
  have HFX := Lib.hid (fun u v => farC_le A u v)
  clear hwf hFe hF0 hta hx0 hy0
  have b1 : (x.length : Int) ≤ 64 := by omega
  have b2 : (y.length : Int) ≤ 64 := by omega
  go_enter Tryd.func62, Tryd.ntmps62
  go_wp2_with fail
  refine HTA.out.mono ?_
  rintro e w1 ⟨cb, mb, rfl, hG, _, hx1⟩
  have hxw := hx3.trans hx1
  clear hx3
  go_wp2_with fail
  go_loopw [9, 10, 11] (fun l iv kv wr => ∃ (i k : Nat) (done : List (Int × Int)), i ≤ x.length ∧ k ≤ y.length ∧ iv = .int .i64 i ∧ kv = .int .i64 k ∧ Ext w1 wr ∧ wr.ownsRow w1.heap.size 44 2 l done.length (pairRow done) ∧ done.length ≤ i + k ∧ Hid (done ++ T i k = F)) (fun _ iv kv _ => (x.length + y.length) - (intOf iv + intOf kv).toNat)
  case atStart => exact ⟨0, 0, [], Nat.zero_le _, Nat.zero_le _, rfl, rfl, Ext.refl _, World.ownsRow_nil _ _ _ _, by simp, by rw [List.nil_append]; exact HF0.out⟩
  case round =>
    obtain ⟨i, k, done, hi', hk', rfl, rfl, hx, hown, hdl, HD⟩ := hrel
    obtain ⟨rp, rc, rfl⟩ := ownsRow_slice hown
    by_cases hi2 : i < x.length
    · obtain ⟨bx, ox, e0, _, _⟩ := (hX.mono (hxw.trans hx)).cells hi2
      subst e0
      have li : decide ((i : Int) < (x.length : Int)) = true := decide_eq_true (by omega)
      have bi : (i : Int) < 64 := by omega
      by_cases hk2 : k < y.length
      · obtain ⟨by_, oy, e1, _, _⟩ := (hY.mono (hxw.trans hx)).cells hk2
        subst e1
        have lk : decide ((k : Int) < (y.length : Int)) = true := decide_eq_true (by omega)
        have bk : (k : Int) < 64 := by omega
        have HF := Lib.hid (HFA.out i k hi2 hk2)
        have ba := HFX.out (rn x i) (rn y k)
        have hst := HFB.out i k hi2 hk2
        have hd := HD.out
        rw [hst] at hd
        obtain ⟨fa, hfa⟩ : ∃ fa, farC A (rn x i) (rn y k) = fa := ⟨_, rfl⟩
        rw [hfa] at HF ba hd
        clear hfa hst
        have bc := HCL.out i k
        have bc11 := HCL.out (i + 1) (k + 1)
        have bc10 := HCL.out (i + 1) k
        obtain ⟨d0, d1, l0⟩ := HBX.out _ (hx1.trans hx)
        obtain ⟨lx, cx⟩ := (hX.mono (hxw.trans hx)).cell hi2
        obtain ⟨ly, cy⟩ := (hY.mono (hxw.trans hx)).cell hk2
        have lcb := (hG.ext hx).lt
        obtain ⟨qa, ha, lqa, ra⟩ := (hG.ext hx).rows (i) (by omega)
        have ca := ra (k) (by omega)
        obtain ⟨qb, hb, lqb, rb⟩ := (hG.ext hx).rows (i + 1) (by omega)
        have cb2 := rb (k + 1) (by omega)
        cases gB : (((c i k : Nat) : Int) == (fa : Int) + (c (i + 1) (k + 1) : Nat))
        · have gn : ¬ c i k = fa + c (i + 1) (k + 1) := by rw [beq_eq_false_iff_ne] at gB; omega
          rw [if_neg gn] at hd
          clear gn
          cases gL : (((c i k : Nat) : Int) == (5 : Int) + (c (i + 1) k : Nat))
          · have gn : ¬ c i k = 5 + c (i + 1) k := by rw [beq_eq_false_iff_ne] at gL; omega
            rw [if_neg gn] at hd
            clear gn
            have HD2 := Lib.hid hd
            clear hd
            go_wp2_with fail
            (refine wp_region_ext (by kernel_rfl) (by kernel_rfl) ?_; intro ι hι g hg; have q_d0 := hg.cell d0; have q_d1 := hg.cell d1; have q_cx := hg.cell cx; have q_cy := hg.cell cy; have q_ha := hg.cell ha; have q_ca := hg.cell ca; have q_hb := hg.cell hb; have q_cb2 := hg.cell cb2; clear d0 d1 cx cy ha ca hb cb2; (repeat (go_big_quiet_step ((go_at_call 54; exact hg.call (HF.out _ ((hxw.trans hx).trans (hg.ext _))))))); refine wpQuiet_nil ?_; rintro w2 ⟨i2, rfl⟩; have hq := hg.ext i2; generalize g i2 = w2 at hq ⊢; clear q_d0 q_d1 q_cx q_cy q_ha q_ca q_hb q_cb2 i2 hg g hι ι)
            have hx2 := hx.trans hq
            have hbs : w1.heap.size ≤ w2.heap.size := hx2.le
            have lcb := (hG.ext hx2).lt
            obtain ⟨qa, ha, lqa, ra⟩ := (hG.ext hx2).rows (i) (by omega)
            have ca := ra (k) (by omega)
            obtain ⟨qc, hc2, lqc, rcc⟩ := (hG.ext hx2).rows (i + 1) (by omega)
            have cc2 := rcc (k) (by omega)
            go_wp2_with fail
            (refine wp_region_ext (by kernel_rfl) (by kernel_rfl) ?_; intro ι hι g hg; have q_ha := hg.cell ha; have q_ca := hg.cell ca; have q_hc2 := hg.cell hc2; have q_cc2 := hg.cell cc2; clear ha ca hc2 cc2; (repeat (go_big_quiet_step (fail))); refine wpQuiet_nil ?_; rintro w3 ⟨i2, rfl⟩; have hq3 := hg.ext i2; generalize g i2 = w3 at hq3 ⊢; clear q_ha q_ca q_hc2 q_cc2 i2 hg g hι ι)
            have hx3 := hx2.trans hq3
            have hqq : Ext wr w3 := hq.trans hq3
            have hbs : w1.heap.size ≤ w3.heap.size := hx3.le
            obtain ⟨ly, cy⟩ := (hY.mono (hxw.trans hx3)).cell hk2
            go_wp2_with (at_builtin; go_loud (refine wpList_append_own _ rfl _ _ 33 rfl w1.heap.size 44 i0 (.agg #[.int .i32 0, .int .i32 0]) 2 8 Tryd.underlying33 hi hz0 hz1 hz2 rfl (by decide) (.slice rp done.length rc) done.length (pairRow done) rfl (ownsRow_ext hown (by repeat (first | assumption | exact Ext.refl _ | refine Ext.alloc ?_ _ | refine Ext.drew ?_ | refine Ext.drewN ?_ _ | refine Ext.setCell ?_ (by first | (simp; done) | (simp; omega) | omega) _ | (refine Ext.trans ?_ (by assumption))))) ⟨w3.heap.size, 0, none⟩ 1 1 [.int .i32 (0), .int .i32 (rn y k)] rfl rfl (two_cells' _ _ _ _) (by simp [Value.oneCell']) (by unfold maxLen; omega) (by omega) (by simp; omega) ?_); intro v' w4 hown4 hgrow _)
            refine ⟨⟨i, k + 1, done ++ [(0, rn y k)], by omega, by omega, by go_num, by go_num, Ext.append (by repeat (first | assumption | exact Ext.refl _ | refine Ext.alloc ?_ _ | refine Ext.drew ?_ | refine Ext.drewN ?_ _ | refine Ext.setCell ?_ (by first | (simp; done) | (simp; omega) | omega) _ | (refine Ext.trans ?_ (by assumption)))) (ownsRow_ext hown (by repeat (first | assumption | exact Ext.refl _ | refine Ext.alloc ?_ _ | refine Ext.drew ?_ | refine Ext.drewN ?_ _ | refine Ext.setCell ?_ (by first | (simp; done) | (simp; omega) | omega) _ | (refine Ext.trans ?_ (by assumption))))) hgrow (Nat.le_refl _), ?_, by simp; omega, ?_⟩, by simp [intOf]; omega⟩
            · rw [List.length_append, pairRow_append]; exact hown4
            · have e : (done ++ [(0, rn y k)]) ++ T (i) (k + 1) = F := by rw [List.append_assoc]; exact HD2.out
              exact e
          · have gn : c i k = 5 + c (i + 1) k := by rw [beq_iff_eq] at gL; omega
            rw [if_pos gn] at hd
            clear gn
            have HD2 := Lib.hid hd
            clear hd
            go_wp2_with fail
            (refine wp_region_ext (by kernel_rfl) (by kernel_rfl) ?_; intro ι hι g hg; have q_d0 := hg.cell d0; have q_d1 := hg.cell d1; have q_cx := hg.cell cx; have q_cy := hg.cell cy; have q_ha := hg.cell ha; have q_ca := hg.cell ca; have q_hb := hg.cell hb; have q_cb2 := hg.cell cb2; clear d0 d1 cx cy ha ca hb cb2; (repeat (go_big_quiet_step ((go_at_call 54; exact hg.call (HF.out _ ((hxw.trans hx).trans (hg.ext _))))))); refine wpQuiet_nil ?_; rintro w2 ⟨i2, rfl⟩; have hq := hg.ext i2; generalize g i2 = w2 at hq ⊢; clear q_d0 q_d1 q_cx q_cy q_ha q_ca q_hb q_cb2 i2 hg g hι ι)
            have hx2 := hx.trans hq
            have hbs : w1.heap.size ≤ w2.heap.size := hx2.le
            have lcb := (hG.ext hx2).lt
            obtain ⟨qa, ha, lqa, ra⟩ := (hG.ext hx2).rows (i) (by omega)
            have ca := ra (k) (by omega)
            obtain ⟨qc, hc2, lqc, rcc⟩ := (hG.ext hx2).rows (i + 1) (by omega)
            have cc2 := rcc (k) (by omega)
            go_wp2_with fail
            (refine wp_region_ext (by kernel_rfl) (by kernel_rfl) ?_; intro ι hι g hg; have q_ha := hg.cell ha; have q_ca := hg.cell ca; have q_hc2 := hg.cell hc2; have q_cc2 := hg.cell cc2; clear ha ca hc2 cc2; (repeat (go_big_quiet_step (fail))); refine wpQuiet_nil ?_; rintro w3 ⟨i2, rfl⟩; have hq3 := hg.ext i2; generalize g i2 = w3 at hq3 ⊢; clear q_ha q_ca q_hc2 q_cc2 i2 hg g hι ι)
            have hx3 := hx2.trans hq3
            have hqq : Ext wr w3 := hq.trans hq3
            have hbs : w1.heap.size ≤ w3.heap.size := hx3.le
            obtain ⟨lx, cx⟩ := (hX.mono (hxw.trans hx3)).cell hi2
            go_wp2_with (at_builtin; go_loud (refine wpList_append_own _ rfl _ _ 33 rfl w1.heap.size 44 i0 (.agg #[.int .i32 0, .int .i32 0]) 2 8 Tryd.underlying33 hi hz0 hz1 hz2 rfl (by decide) (.slice rp done.length rc) done.length (pairRow done) rfl (ownsRow_ext hown (by repeat (first | assumption | exact Ext.refl _ | refine Ext.alloc ?_ _ | refine Ext.drew ?_ | refine Ext.drewN ?_ _ | refine Ext.setCell ?_ (by first | (simp; done) | (simp; omega) | omega) _ | (refine Ext.trans ?_ (by assumption))))) ⟨w3.heap.size, 0, none⟩ 1 1 [.int .i32 (rn x i), .int .i32 (0)] rfl rfl (two_cells' _ _ _ _) (by simp [Value.oneCell']) (by unfold maxLen; omega) (by omega) (by simp; omega) ?_); intro v' w4 hown4 hgrow _)
            refine ⟨⟨i + 1, k, done ++ [(rn x i, 0)], by omega, by omega, by go_num, by go_num, Ext.append (by repeat (first | assumption | exact Ext.refl _ | refine Ext.alloc ?_ _ | refine Ext.drew ?_ | refine Ext.drewN ?_ _ | refine Ext.setCell ?_ (by first | (simp; done) | (simp; omega) | omega) _ | (refine Ext.trans ?_ (by assumption)))) (ownsRow_ext hown (by repeat (first | assumption | exact Ext.refl _ | refine Ext.alloc ?_ _ | refine Ext.drew ?_ | refine Ext.drewN ?_ _ | refine Ext.setCell ?_ (by first | (simp; done) | (simp; omega) | omega) _ | (refine Ext.trans ?_ (by assumption))))) hgrow (Nat.le_refl _), ?_, by simp; omega, ?_⟩, by simp [intOf]; omega⟩
            · rw [List.length_append, pairRow_append]; exact hown4
            · have e : (done ++ [(rn x i, 0)]) ++ T (i + 1) (k) = F := by rw [List.append_assoc]; exact HD2.out
              exact e
        · have gn : c i k = fa + c (i + 1) (k + 1) := by rw [beq_iff_eq] at gB; omega
          rw [if_pos gn] at hd
          clear gn
          have HD2 := Lib.hid hd
          clear hd
          go_wp2_with fail
          (refine wp_region_ext (by kernel_rfl) (by kernel_rfl) ?_; intro ι hι g hg; have q_d0 := hg.cell d0; have q_d1 := hg.cell d1; have q_cx := hg.cell cx; have q_cy := hg.cell cy; have q_ha := hg.cell ha; have q_ca := hg.cell ca; have q_hb := hg.cell hb; have q_cb2 := hg.cell cb2; clear d0 d1 cx cy ha ca hb cb2; (repeat (go_big_quiet_step ((go_at_call 54; exact hg.call (HF.out _ ((hxw.trans hx).trans (hg.ext _))))))); refine wpQuiet_nil ?_; rintro w2 ⟨i2, rfl⟩; have hq := hg.ext i2; generalize g i2 = w2 at hq ⊢; clear q_d0 q_d1 q_cx q_cy q_ha q_ca q_hb q_cb2 i2 hg g hι ι)
          have hx2 := hx.trans hq
          have hbs : w1.heap.size ≤ w2.heap.size := hx2.le
          obtain ⟨lx, cx⟩ := (hX.mono (hxw.trans hx2)).cell hi2
          obtain ⟨ly, cy⟩ := (hY.mono (hxw.trans hx2)).cell hk2
          go_wp2_with fail
          go_region_law (refine step_append_own rfl (.tmp 80) (.tmp 90) 33 rfl w1.heap.size 44 i0 (.agg #[.int .i32 0, .int .i32 0]) 2 8 Tryd.underlying33 hi hz0 hz1 hz2 rfl (by decide) (.slice rp done.length rc) done.length (pairRow done) (by simp [Act.eval]) (ownsRow_ext hown (by repeat (first | assumption | exact Ext.refl _ | refine Ext.alloc ?_ _ | refine Ext.drew ?_ | refine Ext.drewN ?_ _ | refine Ext.setCell ?_ (by first | (simp; done) | (simp; omega) | omega) _ | (refine Ext.trans ?_ (by assumption))))) ⟨w2.heap.size, 0, none⟩ 1 1 [.int .i32 (rn x i), .int .i32 (rn y k)] (by simp [Act.eval]) rfl (two_cells' _ _ _ _) (by simp [Value.oneCell']) (by unfold maxLen; omega) (by omega) (by simp; omega) ?_; intro v' w4 hown4 hgrow)
          all_goals go_wp2_with fail
          all_goals
            refine ⟨⟨i + 1, k + 1, done ++ [(rn x i, rn y k)], by omega, by omega, by go_num, by go_num, Ext.append (by repeat (first | assumption | exact Ext.refl _ | refine Ext.alloc ?_ _ | refine Ext.drew ?_ | refine Ext.drewN ?_ _ | refine Ext.setCell ?_ (by first | (simp; done) | (simp; omega) | omega) _ | (refine Ext.trans ?_ (by assumption)))) (ownsRow_ext hown (by repeat (first | assumption | exact Ext.refl _ | refine Ext.alloc ?_ _ | refine Ext.drew ?_ | refine Ext.drewN ?_ _ | refine Ext.setCell ?_ (by first | (simp; done) | (simp; omega) | omega) _ | (refine Ext.trans ?_ (by assumption))))) hgrow (Nat.le_refl _), ?_, by simp; omega, ?_⟩, by simp [intOf]; omega⟩
            · rw [List.length_append, pairRow_append]; exact hown4
            · have e : (done ++ [(rn x i, rn y k)]) ++ T (i + 1) (k + 1) = F := by rw [List.append_assoc]; exact HD2.out
              exact e
      · have e : k = y.length := by omega
        subst e
        have hd := HD.out
        rw [HFL.out i hi2] at hd
        have HD2 := Lib.hid hd
        clear hd
        have bc := HCL.out i y.length
        have bc10 := HCL.out (i + 1) y.length
        have gL : (((c i y.length : Nat) : Int) == (5 : Int) + (c (i + 1) y.length : Nat)) = true := by rw [beq_iff_eq, HCe.out i hi2]; omega
        go_wp2_with fail
        (refine wp_region_ext (by kernel_rfl) (by kernel_rfl) ?_; intro ι hι g hg; (repeat (go_big_quiet_step (fail))); refine wpQuiet_nil ?_; rintro w2 ⟨i2, rfl⟩; have hq := hg.ext i2; generalize g i2 = w2 at hq ⊢; clear  i2 hg g hι ι)
        have hx2 := hx.trans hq
        have hbs : w1.heap.size ≤ w2.heap.size := hx2.le
        have lcb := (hG.ext hx2).lt
        obtain ⟨qa, ha, lqa, ra⟩ := (hG.ext hx2).rows (i) (by omega)
        have ca := ra (y.length) (by omega)
        obtain ⟨qc, hc2, lqc, rcc⟩ := (hG.ext hx2).rows (i + 1) (by omega)
        have cc2 := rcc (y.length) (by omega)
        go_wp2_with fail
        (refine wp_region_ext (by kernel_rfl) (by kernel_rfl) ?_; intro ι hι g hg; have q_ha := hg.cell ha; have q_ca := hg.cell ca; have q_hc2 := hg.cell hc2; have q_cc2 := hg.cell cc2; clear ha ca hc2 cc2; (repeat (go_big_quiet_step (fail))); refine wpQuiet_nil ?_; rintro w3 ⟨i2, rfl⟩; have hq3 := hg.ext i2; generalize g i2 = w3 at hq3 ⊢; clear q_ha q_ca q_hc2 q_cc2 i2 hg g hι ι)
        have hx3 := hx2.trans hq3
        have hqq : Ext wr w3 := hq.trans hq3
        have hbs : w1.heap.size ≤ w3.heap.size := hx3.le
        obtain ⟨lx, cx⟩ := (hX.mono (hxw.trans hx3)).cell hi2
        go_wp2_with (at_builtin; go_loud (refine wpList_append_own _ rfl _ _ 33 rfl w1.heap.size 44 i0 (.agg #[.int .i32 0, .int .i32 0]) 2 8 Tryd.underlying33 hi hz0 hz1 hz2 rfl (by decide) (.slice rp done.length rc) done.length (pairRow done) rfl (ownsRow_ext hown (by repeat (first | assumption | exact Ext.refl _ | refine Ext.alloc ?_ _ | refine Ext.drew ?_ | refine Ext.drewN ?_ _ | refine Ext.setCell ?_ (by first | (simp; done) | (simp; omega) | omega) _ | (refine Ext.trans ?_ (by assumption))))) ⟨w3.heap.size, 0, none⟩ 1 1 [.int .i32 (rn x i), .int .i32 (0)] rfl rfl (two_cells' _ _ _ _) (by simp [Value.oneCell']) (by unfold maxLen; omega) (by omega) (by simp; omega) ?_); intro v' w4 hown4 hgrow _)
        refine ⟨⟨i + 1, y.length, done ++ [(rn x i, 0)], by omega, by omega, by go_num, by go_num, Ext.append (by repeat (first | assumption | exact Ext.refl _ | refine Ext.alloc ?_ _ | refine Ext.drew ?_ | refine Ext.drewN ?_ _ | refine Ext.setCell ?_ (by first | (simp; done) | (simp; omega) | omega) _ | (refine Ext.trans ?_ (by assumption)))) (ownsRow_ext hown (by repeat (first | assumption | exact Ext.refl _ | refine Ext.alloc ?_ _ | refine Ext.drew ?_ | refine Ext.drewN ?_ _ | refine Ext.setCell ?_ (by first | (simp; done) | (simp; omega) | omega) _ | (refine Ext.trans ?_ (by assumption))))) hgrow (Nat.le_refl _), ?_, by simp; omega, ?_⟩, by simp [intOf]; omega⟩
        · rw [List.length_append, pairRow_append]; exact hown4
        · have e : (done ++ [(rn x i, 0)]) ++ T (i + 1) (y.length) = F := by rw [List.append_assoc]; exact HD2.out
          exact e
    · have e : i = x.length := by omega
      subst e
      by_cases hk2 : k < y.length
      · obtain ⟨by_, oy, e1, _, _⟩ := (hY.mono (hxw.trans hx)).cells hk2
        subst e1
        have lk : decide ((k : Int) < (y.length : Int)) = true := decide_eq_true (by omega)
        have bk : (k : Int) < 64 := by omega
        have hd := HD.out
        rw [HFR.out k hk2] at hd
        have HD2 := Lib.hid hd
        clear hd
        go_wp2_with fail
        (refine wp_region_ext (by kernel_rfl) (by kernel_rfl) ?_; intro ι hι g hg; (repeat (go_big_quiet_step (fail))); refine wpQuiet_nil ?_; rintro w2 ⟨i2, rfl⟩; have hq := hg.ext i2; generalize g i2 = w2 at hq ⊢; clear  i2 hg g hι ι)
        have hx2 := hx.trans hq
        go_wp2_with fail
        (refine wp_region_ext (by kernel_rfl) (by kernel_rfl) ?_; intro ι hι g hg; (repeat (go_big_quiet_step (fail))); refine wpQuiet_nil ?_; rintro w3 ⟨i2, rfl⟩; have hq3 := hg.ext i2; generalize g i2 = w3 at hq3 ⊢; clear  i2 hg g hι ι)
        have hx3 := hx2.trans hq3
        have hqq : Ext wr w3 := hq.trans hq3
        have hbs : w1.heap.size ≤ w3.heap.size := hx3.le
        obtain ⟨ly, cy⟩ := (hY.mono (hxw.trans hx3)).cell hk2
        go_wp2_with (at_builtin; go_loud (refine wpList_append_own _ rfl _ _ 33 rfl w1.heap.size 44 i0 (.agg #[.int .i32 0, .int .i32 0]) 2 8 Tryd.underlying33 hi hz0 hz1 hz2 rfl (by decide) (.slice rp done.length rc) done.length (pairRow done) rfl (ownsRow_ext hown (by repeat (first | assumption | exact Ext.refl _ | refine Ext.alloc ?_ _ | refine Ext.drew ?_ | refine Ext.drewN ?_ _ | refine Ext.setCell ?_ (by first | (simp; done) | (simp; omega) | omega) _ | (refine Ext.trans ?_ (by assumption))))) ⟨w3.heap.size, 0, none⟩ 1 1 [.int .i32 (0), .int .i32 (rn y k)] rfl rfl (two_cells' _ _ _ _) (by simp [Value.oneCell']) (by unfold maxLen; omega) (by omega) (by simp; omega) ?_); intro v' w4 hown4 hgrow _)
        refine ⟨⟨x.length, k + 1, done ++ [(0, rn y k)], by omega, by omega, by go_num, by go_num, Ext.append (by repeat (first | assumption | exact Ext.refl _ | refine Ext.alloc ?_ _ | refine Ext.drew ?_ | refine Ext.drewN ?_ _ | refine Ext.setCell ?_ (by first | (simp; done) | (simp; omega) | omega) _ | (refine Ext.trans ?_ (by assumption)))) (ownsRow_ext hown (by repeat (first | assumption | exact Ext.refl _ | refine Ext.alloc ?_ _ | refine Ext.drew ?_ | refine Ext.drewN ?_ _ | refine Ext.setCell ?_ (by first | (simp; done) | (simp; omega) | omega) _ | (refine Ext.trans ?_ (by assumption))))) hgrow (Nat.le_refl _), ?_, by simp; omega, ?_⟩, by simp [intOf]; omega⟩
        · rw [List.length_append, pairRow_append]; exact hown4
        · have e : (done ++ [(0, rn y k)]) ++ T (x.length) (k + 1) = F := by rw [List.append_assoc]; exact HD2.out
          exact e
      · have e : k = y.length := by omega
        subst e
        have hd := HD.out
        rw [HFE.out, List.append_nil] at hd
        subst hd
        go_wp2_with fail
        go_ret
        exact ⟨rp, rc, rfl, ⟨ownsRow_base hown (hxw.le), by omega, HWF.out⟩, hxw.trans hx⟩

set_option maxRecDepth 100000 in
set_option maxHeartbeats 2000000 in
theorem two_any (fp lp : Option Addr) (fc lc : Nat) (A : Alpha) (x y : ByteArray) (hx : x.size ≤ 140737488351232) (hy : y.size ≤ 140737488351232) (w : World) (hA : AlphaAt w fp lp A) (hTb : Tabs w) :
    Calls Tryd.prog 61 #[.agg #[.slice fp A.feats.length fc, .slice lp A.lets.length lc], .string x, .string y] w fun e w' => (twoE A x y = 0 → ∃ xp yp xc yc, e = .returned (.tuple #[.slice xp (ltr A x).length xc, .slice yp (ltr A y).length yc, .int .i64 0]) ∧ RunesAt w' xp (ltr A x) ∧ RunesAt w' yp (ltr A y)) ∧ (twoE A x y ≠ 0 → ∃ xp yp xn yn xc yc, e = .returned (.tuple #[.slice xp xn xc, .slice yp yn yc, .int .i64 (twoE A x y)])) ∧ Ext w w' := by
  have hx3 : Ext w (w.alloc (.cells #[.slice fp A.feats.length fc, .slice lp A.lets.length lc] 25)) := (Ext.refl _).alloc _
  have hcx := fun W hW => Letters_any fp lp fc lc A x hx W (hA.mono hW) (hTb.ext hW)
  have hcy := fun W hW => Letters_any fp lp fc lc A y hy W (hA.mono hW) (hTb.ext hW)
  have hte : twoE A x y = if (spell A x).2 ≠ 0 then (spell A x).2 else (spell A y).2 := rfl
  have e1 : ltr A x = (spell A x).1 := rfl
  have e2 : ltr A y = (spell A y).1 := rfl
  rw [e1, e2]
  obtain ⟨lx, hlx⟩ : ∃ l, (spell A x).1 = l := ⟨_, rfl⟩
  obtain ⟨ly, hly⟩ : ∃ l, (spell A y).1 = l := ⟨_, rfl⟩
  obtain ⟨ex, hex⟩ : ∃ e, (spell A x).2 = e := ⟨_, rfl⟩
  obtain ⟨ey, hey⟩ : ∃ e, (spell A y).2 = e := ⟨_, rfl⟩
  rw [hlx, hex] at hcx
  rw [hly, hey] at hcy
  rw [hex, hey] at hte
  rw [hlx, hly]
  obtain ⟨te, hE⟩ : ∃ te, twoE A x y = te := ⟨_, rfl⟩
  rw [hE] at hte ⊢
  have HCX := Lib.hid hcx
  have HCY := Lib.hid hcy
  clear e1 e2 hlx hly hex hey hE hcx hcy
  by_cases h0 : ex = 0
  · subst h0
    rw [if_neg (by decide)] at hte
    subst hte
    go_enter Tryd.func61, Tryd.ntmps61
    go_wp2_with fail
    refine (HCX.out _ hx3).mono ?_
    rintro e w1 ⟨xp, xc, rfl, hox, hx1⟩
    have d0 := hx1.cell0 0
    have d1 := hx1.cell0 1
    have l0 := hx1.lt0
    simp at d0 d1
    go_wp2_with fail
    refine (HCY.out _ (hx3.trans hx1)).mono ?_
    rintro e w2 ⟨yp, yc, rfl, hoy, hx2⟩
    go_wp2_with fail
    go_ret3
    refine ⟨fun h => ⟨xp, yp, xc, yc, ?_, hox.at_.mono hx2, hoy.at_⟩, fun _ => ⟨xp, yp, lx.length, ly.length, xc, yc, rfl⟩, (hx3.trans hx1).trans hx2⟩
    rw [← h]; rfl
  · rw [if_pos h0] at hte
    subst hte
    have gE : (te != 0) = true := by rw [bne_iff_ne]; exact h0
    go_enter Tryd.func61, Tryd.ntmps61
    go_wp2_with fail
    refine (HCX.out _ hx3).mono ?_
    rintro e w1 ⟨xp, xc, rfl, hox, hx1⟩
    go_wp2_with fail
    go_ret3
    exact ⟨fun h => absurd h h0, fun _ => ⟨none, none, 0, 0, 0, 0, rfl⟩, hx3.trans hx1⟩

set_option maxRecDepth 100000 in
set_option maxHeartbeats 4000000 in
theorem words21_any (fp lp : Option Addr) (fc lc : Nat) (A : Alpha) (x y : ByteArray) (hx : x.size ≤ 140737488351232) (hy : y.size ≤ 140737488351232) (w : World) (hA : AlphaAt w fp lp A) (hTb : Tabs w) :
    Calls Tryd.prog 21 #[.agg #[.slice fp A.feats.length fc, .slice lp A.lets.length lc], .string x, .string y] w fun e w' => ∃ p c, e = .returned (.tuple #[.int .i64 (twoC A x y : Nat), .slice p (twoP A x y).length c, .int .i64 (twoE A x y)]) ∧ OwnPairs 44 w.heap.size w' p c (twoP A x y) ∧ Ext w w' := by
  have hx3 : Ext w (w.alloc (.cells #[.slice fp A.feats.length fc, .slice lp A.lets.length lc] 25)) := (Ext.refl _).alloc _
  have hct := two_any fp lp fc lc A x y hx hy _ (hA.mono hx3) (hTb.ext hx3)
  have htc : twoC A x y = if twoE A x y = 0 then al (farC A) (ltr A x) (ltr A y) else 0 := rfl
  have htp : twoP A x y = if twoE A x y = 0 then fst1 (farC A) (ltr A x) (ltr A y) else [] := rfl
  have HBX := Lib.hid (fun W (hW : Ext (w.alloc (.cells #[.slice fp A.feats.length fc, .slice lp A.lets.length lc] 25)) W) => (⟨hW.cell0 0, hW.cell0 1, hW.lt0⟩ : W.cell? ⟨w.heap.size, 0, none⟩ = some (.slice fp A.feats.length fc) ∧ W.cell? ⟨w.heap.size, 1, none⟩ = some (.slice lp A.lets.length lc) ∧ w.heap.size < W.heap.size))
  by_cases h0 : twoE A x y = 0
  · rw [if_pos h0] at htc htp
    rw [htc, htp, h0]
    obtain ⟨k1, k2⟩ := twoE_zero h0
    obtain ⟨hok, _, ix, h1⟩ := ltr_ok k1
    obtain ⟨_, _, iy, h2⟩ := ltr_ok k2
    have hta := fun xp yp xc yc W (hW : Ext w W) hX hY => table_any fp lp xp yp fc lc xc yc A (ltr A x) (ltr A y) h1 h2 (InA_ne hok ix) (InA_ne hok iy) W (hA.mono hW) hX hY
    have hfi := fun xp yp xc yc W (hW : Ext w W) hX hY => first21_any fp lp xp yp fc lc xc yc A (ltr A x) (ltr A y) h1 h2 (InA_ne hok ix) (InA_ne hok iy) W (hA.mono hW) hX hY
    have hz : tc (farC A) (ltr A x) (ltr A y) 0 0 = al (farC A) (ltr A x) (ltr A y) := rfl
    have HCT := Lib.hid (hct.mono fun e w' h => (⟨h.1 h0, h.2.2⟩ : _ ∧ Ext (w.alloc (.cells #[.slice fp A.feats.length fc, .slice lp A.lets.length lc] 25)) w'))
    clear hct htc htp h0 k1 k2 hok ix iy
    obtain ⟨lx, hlx⟩ : ∃ l, ltr A x = l := ⟨_, rfl⟩
    obtain ⟨ly, hly⟩ : ∃ l, ltr A y = l := ⟨_, rfl⟩
    rw [hlx, hly] at hfi hta hz HCT ⊢
    rw [hlx] at h1
    rw [hly] at h2
    clear hlx hly
    obtain ⟨F, hF⟩ : ∃ F, fst1 (farC A) lx ly = F := ⟨_, rfl⟩
    rw [hF] at hfi ⊢
    clear hF
    obtain ⟨c, hc⟩ : ∃ c, tc (farC A) lx ly = c := ⟨_, rfl⟩
    obtain ⟨m, hm⟩ : ∃ m, tm (farC A) lx ly = m := ⟨_, rfl⟩
    rw [hc, hm] at hta
    rw [hc] at hz
    rw [← hz]
    have HFI := Lib.hid hfi
    have HTA := Lib.hid hta
    clear hfi hta hc hm hz
    go_enter Tryd.func21, Tryd.ntmps21
    go_wp2_with fail
    refine HCT.out.mono ?_
    rintro e w1 ⟨⟨xp, yp, xc, yc, rfl, hX, hY⟩, hx1⟩
    obtain ⟨d0, d1, l0⟩ := HBX.out _ hx1
    go_wp2_with fail
    refine (HTA.out xp yp xc yc _ (hx3.trans hx1) hX hY).mono ?_
    rintro e w2 ⟨cb, mb, rfl, hG, _, hx2⟩
    have hxb := hx1.trans hx2
    have hxw := hx3.trans hxb
    have hX2 := hX.mono hx2
    have hY2 := hY.mono hx2
    clear d0 d1 l0 hX hY
    obtain ⟨q, hh, lq, hr⟩ := hG.rows 0 (by omega)
    have hr0 := hr 0 (by omega)
    have lcb := hG.lt
    go_wp2_with fail
    have hS4 := fun (W : World) (hW : Ext w2 W) => (⟨hW, (HBX.out _ (hxb.trans hW)).1, (HBX.out _ (hxb.trans hW)).2.1, (hW.facts.1 cb 0 lcb).trans hh, (hW.facts.1 q 0 lq).trans hr0⟩ : Ext w2 W ∧ W.cell? ⟨w.heap.size, 0, none⟩ = some (.slice fp A.feats.length fc) ∧ W.cell? ⟨w.heap.size, 1, none⟩ = some (.slice lp A.lets.length lc) ∧ W.cell? ⟨cb, 0, none⟩ = some (.slice (some ⟨q, 0, none⟩) (ly.length + 1) (ly.length + 1)) ∧ W.cell? ⟨q, 0, none⟩ = some (.int .i64 (c 0 0 : Nat)))
    have HS4 := Lib.hid hS4
    clear hS4
    go_region_held3 (fun W => Ext w2 W ∧ W.cell? ⟨w.heap.size, 0, none⟩ = some (.slice fp A.feats.length fc) ∧ W.cell? ⟨w.heap.size, 1, none⟩ = some (.slice lp A.lets.length lc) ∧ W.cell? ⟨cb, 0, none⟩ = some (.slice (some ⟨q, 0, none⟩) (ly.length + 1) (ly.length + 1)) ∧ W.cell? ⟨q, 0, none⟩ = some (.int .i64 (c 0 0 : Nat))) (exact HS4.out _ (by first | assumption | exact Ext.refl _ | exact (Ext.refl _).drew))
      (first | (go_at_call 62; refine (HFI.out xp yp xc yc _ hxw.drew (hX2.mono (Ext.refl _).drew) (hY2.mono (Ext.refl _).drew)).mono ?_; rintro e w3 ⟨pp, pc, rfl, hop, hx4⟩; have hE3 : Ext w2 w3 := ((Ext.refl w2).drew).trans hx4))
    go_wp2_with fail
    go_ret3
    exact ⟨pp, pc, rfl, ⟨ownsRow_base hop.1 (hxw.drew).le, hop.2⟩, hxw.trans hE3⟩
  · rw [if_neg h0] at htc htp
    rw [htc, htp]
    have HCT := Lib.hid (hct.mono fun e w' h => (⟨h.2.1 h0, h.2.2⟩ : _ ∧ Ext (w.alloc (.cells #[.slice fp A.feats.length fc, .slice lp A.lets.length lc] 25)) w'))
    have gE : (twoE A x y != 0) = true := by rw [bne_iff_ne]; exact h0
    clear hct htc htp h0
    go_enter Tryd.func21, Tryd.ntmps21
    go_wp2_with fail
    refine HCT.out.mono ?_
    rintro e w1 ⟨⟨xp, yp, xn, yn, xc, yc, rfl⟩, hx1⟩
    go_wp2_with fail
    go_ret3
    exact ⟨none, 0, rfl, ⟨World.ownsRow_nil _ _ _ _, by simp, fun i hi => absurd hi (by simp)⟩, hx3.trans hx1⟩

set_option maxRecDepth 100000 in
set_option maxHeartbeats 4000000 in
theorem many21_any (fp lp : Option Addr) (fc lc : Nat) (A : Alpha) (x y : ByteArray) (n : Int) (hx : x.size ≤ 140737488351232) (hy : y.size ≤ 140737488351232) (w : World) (hA : AlphaAt w fp lp A) (hTb : Tabs w) :
    Calls Tryd.prog 23 #[.agg #[.slice fp A.feats.length fc, .slice lp A.lets.length lc], .string x, .string y, .int .i64 n] w fun e w' => e = .returned (.tuple #[.int .i64 (manyN A x y n), .int .i64 (manyE A x y n)]) ∧ Ext w w' := by
  have hx3 : Ext w (w.alloc (.cells #[.slice fp A.feats.length fc, .slice lp A.lets.length lc] 25)) := (Ext.refl _).alloc _
  have hct := two_any fp lp fc lc A x y hx hy _ (hA.mono hx3) (hTb.ext hx3)
  have HBX := Lib.hid (fun W (hW : Ext (w.alloc (.cells #[.slice fp A.feats.length fc, .slice lp A.lets.length lc] 25)) W) => (⟨hW.cell0 0, hW.cell0 1, hW.lt0⟩ : W.cell? ⟨w.heap.size, 0, none⟩ = some (.slice fp A.feats.length fc) ∧ W.cell? ⟨w.heap.size, 1, none⟩ = some (.slice lp A.lets.length lc) ∧ w.heap.size < W.heap.size))
  have hme : manyE A x y n = if twoE A x y ≠ 0 then twoE A x y else if n < 0 ∨ 1048576 < n then 2 else 0 := rfl
  have hmn : manyN A x y n = if manyE A x y n = 0 then min ((mn (farC A) (ltr A x) (ltr A y) : Nat) : Int) n else 0 := rfl
  by_cases h0 : twoE A x y = 0
  · rw [if_neg (fun h => h h0)] at hme
    have HCT := Lib.hid (hct.mono fun e w' h => (⟨h.1 h0, h.2.2⟩ : _ ∧ Ext (w.alloc (.cells #[.slice fp A.feats.length fc, .slice lp A.lets.length lc] 25)) w'))
    obtain ⟨k1, k2⟩ := twoE_zero h0
    obtain ⟨hok, _, ix, h1⟩ := ltr_ok k1
    obtain ⟨_, _, iy, h2⟩ := ltr_ok k2
    have hta := fun xp yp xc yc W (hW : Ext w W) hX hY => table_any fp lp xp yp fc lc xc yc A (ltr A x) (ltr A y) h1 h2 (InA_ne hok ix) (InA_ne hok iy) W (hA.mono hW) hX hY
    have hz : tm (farC A) (ltr A x) (ltr A y) 0 0 = mn (farC A) (ltr A x) (ltr A y) := rfl
    have hzl := mn_pos (farC A) (ltr A x) (ltr A y)
    obtain ⟨lx, hlx⟩ : ∃ l, ltr A x = l := ⟨_, rfl⟩
    obtain ⟨ly, hly⟩ : ∃ l, ltr A y = l := ⟨_, rfl⟩
    rw [hlx, hly] at hz HCT hmn hzl hta
    rw [hlx] at h1
    rw [hly] at h2
    obtain ⟨c, hc⟩ : ∃ c, tc (farC A) lx ly = c := ⟨_, rfl⟩
    obtain ⟨m, hm⟩ : ∃ m, tm (farC A) lx ly = m := ⟨_, rfl⟩
    obtain ⟨ME, hME⟩ : ∃ v, manyE A x y n = v := ⟨_, rfl⟩
    obtain ⟨MN, hMN⟩ : ∃ v, manyN A x y n = v := ⟨_, rfl⟩
    rw [hc, hm] at hta
    rw [hm] at hz
    rw [← hz] at hmn hzl
    rw [hME] at hme hmn ⊢
    rw [hMN] at hmn ⊢
    have HTA := Lib.hid hta
    clear hct h0 hlx hly hc hm hz hME hMN hta k1 k2 hok ix iy
    by_cases hn : n < 0
    · rw [if_pos (.inl hn)] at hme
      subst hme
      rw [if_neg (by decide)] at hmn
      subst hmn
      have g1 : decide (n < 0) = true := decide_eq_true hn
      go_enter Tryd.func23, Tryd.ntmps23
      go_wp2_with fail
      refine HCT.out.mono ?_
      rintro e w1 ⟨⟨xp, yp, xc, yc, rfl, hX, hY⟩, hx1⟩
      go_wp2_with fail
      go_ret2
      exact ⟨rfl, hx3.trans hx1⟩
    · have g1 : decide (n < 0) = false := decide_eq_false hn
      by_cases hn2 : 1048576 < n
      · rw [if_pos (.inr hn2)] at hme
        subst hme
        rw [if_neg (by decide)] at hmn
        subst hmn
        have g2 : decide (n > 1048576) = true := decide_eq_true hn2
        have g3 : decide (1048576 < n) = true := decide_eq_true hn2
        clear hn2
        go_enter Tryd.func23, Tryd.ntmps23
        go_wp2_with fail
        refine HCT.out.mono ?_
        rintro e w1 ⟨⟨xp, yp, xc, yc, rfl, hX, hY⟩, hx1⟩
        go_wp2_with fail
        go_ret2
        exact ⟨rfl, hx3.trans hx1⟩
      · rw [if_neg (fun h => h.elim hn hn2)] at hme
        subst hme
        rw [if_pos rfl] at hmn
        have g2 : decide (n > 1048576) = false := decide_eq_false hn2
        have g3 : decide (1048576 < n) = false := decide_eq_false hn2
        have HMN := Lib.hid hmn
        have HL := Lib.hid hzl
        clear hn2 hmn hzl
        go_enter Tryd.func23, Tryd.ntmps23
        go_wp2_with fail
        refine HCT.out.mono ?_
        rintro e w1 ⟨⟨xp, yp, xc, yc, rfl, hX, hY⟩, hx1⟩
        obtain ⟨d0, d1, l0⟩ := HBX.out _ hx1
        go_wp2_with fail
        refine (HTA.out xp yp xc yc _ (hx3.trans hx1) hX hY).mono ?_
        rintro e w2 ⟨cb, mb, rfl, _, hG, hx2⟩
        obtain ⟨q, hh, lq, hr⟩ := hG.rows 0 (by omega)
        have hr0 := hr 0 (by omega)
        have lcb := hG.lt
        go_wp2_with fail
        all_goals (try go_ret2)
        all_goals exact ⟨by rw [HMN.out]; congr 4 <;> omega, (hx3.trans hx1).trans hx2⟩
  · rw [if_pos h0] at hme
    have hn0 : manyN A x y n = 0 := by rw [hmn, hme, if_neg h0]
    rw [hn0, hme]
    have HCT := Lib.hid (hct.mono fun e w' h => (⟨h.2.1 h0, h.2.2⟩ : _ ∧ Ext (w.alloc (.cells #[.slice fp A.feats.length fc, .slice lp A.lets.length lc] 25)) w'))
    have gE : (twoE A x y != 0) = true := by rw [bne_iff_ne]; exact h0
    clear hct hme hmn h0 hn0
    go_enter Tryd.func23, Tryd.ntmps23
    go_wp2_with fail
    refine HCT.out.mono ?_
    rintro e w1 ⟨⟨xp, yp, xn, yn, xc, yc, rfl⟩, hx1⟩
    go_wp2_with fail
    go_ret2
    exact ⟨rfl, hx3.trans hx1⟩

end Go.Proofs.YtobajknhnjceiaaDoor
