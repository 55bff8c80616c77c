/- The law FeatureLeast holds (its walk): the least class; classes within classes. -/
import Derived.Test.YtppbjeipfopehaaDoorFell
import Derived.Test.YtppbjeipfopehaaDoorFelk
namespace Go.Proofs.YtppbjeipfopehaaDoor
open Go.RowKit Go.Cg Go.Shelf Go.Maps

theorem least_zero {A : Alpha} {l : List Int} (h : leastE A l ≠ 0) : leastP A l = 0 ∧ leastM A l = 0 := ⟨if_neg h, if_neg h⟩
theorem hasB_inv {A : Alpha} {r : Int} {p m : Nat} (h : hasB A r p m = true) : hasE A r p m = 0 ∧ likeB (ofL A r).plus (ofL A r).minus p m = true := by
  unfold hasB at h
  rw [Bool.and_eq_true, decide_eq_true_eq] at h
  exact h

set_option maxRecDepth 100000 in
set_option maxHeartbeats 4000000 in
theorem featureLeast_any (fp lp : Option Addr) (fc lc : Nat) (A : Alpha) (rp : Option Addr) (rc : Nat) (l : List Int) (p : Nat) (hp : p < 4294967296) (m : Nat) (hm : m < 4294967296) (w : World) (hA : AlphaAt w fp lp A) (hR : RunesAt w rp l) :
    Calls Tryd.prog 7 #[.agg #[.slice fp A.feats.length fc, .slice lp A.lets.length lc], .slice rp l.length rc, .int .u32 p, .int .u32 m] w fun e w' => e = .returned (.bool true) ∧ Ext w w' := by
  have hx0 : Ext w (w.alloc (.cells #[.slice fp A.feats.length fc, .slice lp A.lets.length lc] 26)) := (Ext.refl _).alloc _
  have hb0 : Ext (w.alloc (.cells #[.slice fp A.feats.length fc, .slice lp A.lets.length lc] 26)) (w.alloc (.cells #[.slice fp A.feats.length fc, .slice lp A.lets.length lc] 26)) := Ext.refl _
  have hrb := hR.big
  have HL := Lib.hid (fun W (hW : Ext w W) => least_any fp lp rp fc lc rc A l W (hA.mono hW) (hR.mono hW))
  have HH := Lib.hid (fun W (hW : Ext w W) r p m hp hm => has_any fp lp fc lc A r p m hp hm W (hA.mono hW))
  have HC := Lib.hid (fun W (hW : Ext w W) p m hp hm => class_any fp lp fc lc A p m hp hm W (hA.mono hW))
  by_cases h3 : l.length ≤ 300
  · go_enter Tryd.func7, Tryd.ntmps7
    go_wp2_with fail
    refine (alive_any _).mono ?_
    rintro e w1 ⟨rfl, hx1⟩
    have hb1 := hb0.trans hx1
    have hk1 := hx0.trans hx1
    have d0 := hb1.cell0 0
    have d1 := hb1.cell0 1
    simp only [List.getElem?_toArray, List.getElem?_cons_zero, List.getElem?_cons_succ] at d0 d1
    have hs := hb1.lt0
    go_wp2_with fail
    clear d0 d1 hs
    by_cases h0 : leastE A l = 0
    · have hmay := least_may h0
      have hlike := fun i hi => least_like (i := i) h0 hi
      have hmax := fun hp hm ha => least_max (p := p) (m := m) h0 hp hm ha
      obtain ⟨hok, h128, hpos, hfind⟩ := leastE_zero h0
      have hlt := may_lt hok hmay
      refine (HL.out _ hk1).mono ?_
      rw [h0]
      rintro e w2 ⟨rfl, hx2⟩
      have hb2 := hb1.trans hx2
      have hk2 := hk1.trans hx2
      generalize leastP A l = P at *
      generalize leastM A l = M at *
      have hhas : ∀ i, i < l.length → hasE A (rn l i) P M = 0 ∧ hasB A (rn l i) P M = true := fun i hi => by
        have hE : hasE A (rn l i) P M = 0 := by unfold hasE; rw [if_pos (ofE_ok hok (hfind i hi)), if_pos hmay]
        exact ⟨hE, by unfold hasB; rw [hE, hlike i hi]; rfl⟩
      have HHAS := Lib.hid hhas
      have HMAX := Lib.hid hmax
      clear hhas hmax hlike hfind
      go_wp2_with fail
      go_loopw [13, 14] (fun all i wr => ∃ (k : Nat) (o : Bool), k ≤ l.length ∧ all = .bool o ∧ i = .int .i64 k ∧ Hid (o = true → ∀ j, j < k → hasB A (rn l j) p m = true) ∧ Ext (w.alloc (.cells #[.slice fp A.feats.length fc, .slice lp A.lets.length lc] 26)) wr) (fun _ i _ => l.length - (intOf i).toNat)
      case atStart => exact ⟨0, true, Nat.zero_le _, rfl, rfl, fun _ j hj => by omega, hb2⟩
      case round =>
        clear hb2 hk2 hx2 hx1 hb1 hk1
        obtain ⟨k, o, hk, rfl, rfl, HO, hx⟩ := hrel
        have hxw := hx0.trans hx
        have d0 := hx.cell0 0
        have d1 := hx.cell0 1
        simp only [List.getElem?_toArray, List.getElem?_cons_zero, List.getElem?_cons_succ] at d0 d1
        have hs := hx.lt0
        by_cases hlk : k < l.length
        · obtain ⟨b, off, rfl, hbw, c0⟩ := (hR.mono hxw).cells hlk
          obtain ⟨e1, e2⟩ := HHAS.out k hlk
          have HH1 := Lib.hid (fun W (hW : Ext wr W) => by have := HH.out W (hxw.trans hW) (rn l k) P M hlt.1 hlt.2; rw [e1, e2] at this; exact this)
          have HH2 := Lib.hid (fun W (hW : Ext wr W) => HH.out W (hxw.trans hW) (rn l k) p m hp hm)
          go_wp2_with fail
          (refine wp_region_ext (by kernel_rfl) (by kernel_rfl) ?_; intro ι hι g hg; have q_d0 := hg.cell d0; have q_d1 := hg.cell d1; have q_c0 := hg.cell c0; clear d0 d1 c0; (repeat (go_big_quiet_step ((go_at_call 16; exact hg.call (HH1.out _ (hg.ext _)))))); refine wpQuiet_nil ?_; rintro w3 ⟨i2, rfl⟩; have hq := hg.ext i2; generalize g i2 = w3 at hq ⊢; clear q_d0 q_d1 q_c0 i2 hg g hι ι)
          go_wp2_with fail
          have d0 := (hx.trans hq).cell0 0
          have d1 := (hx.trans hq).cell0 1
          simp only [List.getElem?_toArray, List.getElem?_cons_zero, List.getElem?_cons_succ] at d0 d1
          have c0 := ((hR.mono (hxw.trans hq)).cell hlk).2
          have HH3 := Lib.hid (fun W (hW : Ext w3 W) => HH2.out W (hq.trans hW))
          (refine wp_region_ext (by kernel_rfl) (by kernel_rfl) ?_; intro ι hι g hg; have q_d0 := hg.cell d0; have q_d1 := hg.cell d1; have q_c0 := hg.cell c0; clear d0 d1 c0; (repeat (go_big_quiet_step ((go_at_call 16; exact hg.call (HH3.out _ (hg.ext _)))))); refine wpQuiet_nil ?_; rintro w4 ⟨i2, rfl⟩; have hq2 := hg.ext i2; generalize g i2 = w4 at hq2 ⊢; clear q_d0 q_d1 q_c0 i2 hg g hι ι)
          cases o
          · go_wp2_with fail
            exact ⟨⟨k + 1, false, by omega, rfl, by go_num, (fun h => by cases h), (hx.trans hq).trans hq2⟩, by simp [intOf]; omega⟩
          · by_cases hz : hasE A (rn l k) p m = 0
            · have hz2 : (hasE A (rn l k) p m == 0) = true := by rw [hz]; rfl
              cases hbk : hasB A (rn l k) p m
              · go_wp2_with fail
                exact ⟨⟨k + 1, false, by omega, rfl, by go_num, (fun h => by cases h), (hx.trans hq).trans hq2⟩, by simp [intOf]; omega⟩
              · go_wp2_with fail
                exact ⟨⟨k + 1, true, by omega, rfl, by go_num, (fun _ => upto_succ (HO.out rfl) hbk), (hx.trans hq).trans hq2⟩, by simp [intOf]; omega⟩
            · have hz2 : (hasE A (rn l k) p m == 0) = false := by rw [beq_eq_false_iff_ne]; exact hz
              go_wp2_with fail
              exact ⟨⟨k + 1, false, by omega, rfl, by go_num, (fun h => by cases h), (hx.trans hq).trans hq2⟩, by simp [intOf]; omega⟩
        · have hkl : k = l.length := by omega
          have hP2 : P &&& p < 4294967296 := Nat.lt_of_le_of_lt Nat.and_le_left hlt.1
          have hM2 : M &&& m < 4294967296 := Nat.lt_of_le_of_lt Nat.and_le_left hlt.2
          have e1 := Lib.hid (u32_and_nat P p hlt.1 hp)
          have e2 := Lib.hid (u32_and_nat M m hlt.2 hm)
          have hcE := classE_zero hok hmay
          have hdE := classE_zero hok (may_sub (p' := p) (m' := m) hmay)
          have hcL : classL A P M = classTo A P M A.lets.length := by unfold classL; rw [hcE]; rfl
          have hdL : classL A (P &&& p) (M &&& m) = classTo A (P &&& p) (M &&& m) A.lets.length := by unfold classL; rw [hdE]; rfl
          have hsub := classTo_sub A P M p m A.lets.length
          have hcl := classTo_len A P M A.lets.length
          have hdl := classTo_len A (P &&& p) (M &&& m) A.lets.length
          have h128 := hok.2.2.1
          rw [← hcL, ← hdL] at hsub
          rw [← hcL] at hcl
          rw [← hdL] at hdl
          have hsl := hsub.length_le
          have HC1 := Lib.hid (fun W (hW : Ext w W) => by have := HC.out W hW P M hlt.1 hlt.2; rw [hcE] at this; exact this)
          have HC2 := Lib.hid (fun W (hW : Ext w W) => by have := HC.out W hW (P &&& p) (M &&& m) hP2 hM2; rw [hdE] at this; exact this)
          generalize classL A P M = c at *
          generalize classL A (P &&& p) (M &&& m) = d at *
          have hbits : o = true → bits BinOp.and IntKind.u32 (p : Int) (P : Int) = p ∧ bits BinOp.and IntKind.u32 (m : Int) (M : Int) = m := fun ho => by
            have hall := HO.out ho
            have hmp := (hasE_zero (hasB_inv (hall 0 (by omega))).1).2
            unfold mayB at hmp
            simp only [decide_eq_true_eq] at hmp
            obtain ⟨q1, q2⟩ := HMAX.out hmp.1 hmp.2.1 fun i hi => (hasB_inv (hall i (by omega))).2
            rw [u32_and_nat p P hp hlt.1, u32_and_nat m M hm hlt.2, q1, q2]
            exact ⟨rfl, rfl⟩
          clear hcL hdL HC HH HHAS HMAX HL
          have HSUB := Lib.hid hsub
          clear hsub
          cases o
          · clear hbits
            go_wp2_with fail
            refine (HC1.out _ hxw).mono ?_
            rintro e w3 ⟨cp, cc, rfl, hoc, hx3⟩
            have hb3 := hx.trans hx3
            have hk3 := hxw.trans hx3
            clear d0 d1 hs
            have d0 := hb3.cell0 0
            have d1 := hb3.cell0 1
            simp only [List.getElem?_toArray, List.getElem?_cons_zero, List.getElem?_cons_succ] at d0 d1
            have hs := hb3.lt0
            go_wp2_with fail
            rw [e1.out, e2.out]
            refine (HC2.out _ hk3).mono ?_
            rintro e w4 ⟨dp, dc, rfl, hod, hx4⟩
            have hb4 := hb3.trans hx4
            have hk4 := hk3.trans hx4
            have hcA := (hoc.at_).mono hx4
            have hdA := hod.at_
            clear d0 d1 hs hoc hod
            have hgt : decide ((d.length : Int) < (c.length : Int)) = false := by simp; omega
            go_wp2_with fail
            go_loopw [23, 24] (fun kk ii wr => ∃ j i : Nat, i ≤ d.length ∧ j ≤ c.length ∧ kk = .int .i64 j ∧ ii = .int .i64 i ∧ Hid ((c.drop j).Sublist (d.drop i)) ∧ Ext w4 wr) (fun _ ii _ => d.length - (intOf ii).toNat)
            case atStart => exact ⟨0, 0, Nat.zero_le _, Nat.zero_le _, rfl, rfl, HSUB.out, Ext.refl _⟩
            case round =>
              obtain ⟨j, i, hi, hj, rfl, rfl, HS, hx5⟩ := hrel
              by_cases hid : i < d.length
              · by_cases hjc : j < c.length
                · obtain ⟨b1, o1, rfl, hb1, c1⟩ := (hcA.mono hx5).cells hjc
                  obtain ⟨b2, o2, rfl, hb2, c2⟩ := (hdA.mono hx5).cells hid
                  obtain ⟨s1, s2⟩ := sub_step hid hjc HS.out
                  have S1 := Lib.hid s1
                  have S2 := Lib.hid s2
                  clear s1 s2
                  go_wp2_with fail
                  by_cases heq : rn d i = rn c j
                  · have g1 : (rn d i == rn c j) = true := by rw [beq_iff_eq]; exact heq
                    have S3 := Lib.hid (S1.out heq)
                    clear heq
                    (refine wp_region_ext (by kernel_rfl) (by kernel_rfl) ?_; intro ι hι g hg; have q_c1 := hg.cell c1; have q_c2 := hg.cell c2; clear c1 c2; (repeat (go_big_quiet_step (fail))); refine wpQuiet_nil ?_; rintro w6 ⟨i2, rfl⟩; have hq6 := hg.ext i2; generalize g i2 = w6 at hq6 ⊢; clear q_c1 q_c2 i2 hg g hι ι)
                    go_wp2_with fail
                    exact ⟨⟨j + 1, i + 1, by omega, by omega, by go_num, by go_num, S3.out, hx5.trans hq6⟩, by simp [intOf]; omega⟩
                  · have g1 : (rn d i == rn c j) = false := by rw [beq_eq_false_iff_ne]; exact heq
                    have S3 := Lib.hid (S2.out heq)
                    (refine wp_region_ext (by kernel_rfl) (by kernel_rfl) ?_; intro ι hι g hg; have q_c1 := hg.cell c1; have q_c2 := hg.cell c2; clear c1 c2; (repeat (go_big_quiet_step (fail))); refine wpQuiet_nil ?_; rintro w6 ⟨i2, rfl⟩; have hq6 := hg.ext i2; generalize g i2 = w6 at hq6 ⊢; clear q_c1 q_c2 i2 hg g hι ι)
                    go_wp2_with fail
                    exact ⟨⟨j, i + 1, by omega, by omega, rfl, by go_num, S3.out, hx5.trans hq6⟩, by simp [intOf]; omega⟩
                · have hjl : j = c.length := by omega
                  subst hjl
                  go_wp2_with fail
                  go_ret
                  exact ⟨by simp, hk4.trans hx5⟩
              · have hjl : j = c.length := by have := sub_end (Nat.le_of_not_lt hid) HS.out; omega
                subst hjl
                go_wp2_with fail
                go_ret
                exact ⟨by simp, hk4.trans hx5⟩
          · obtain ⟨q1, q2⟩ := hbits rfl
            have r1 : (bits BinOp.and IntKind.u32 (p : Int) (P : Int) != (p : Int)) = false := by rw [q1]; simp
            have r2 : (bits BinOp.and IntKind.u32 (m : Int) (M : Int) != (m : Int)) = false := by rw [q2]; simp
            clear q1 q2 hbits
            go_wp2_with fail
            refine (HC1.out _ hxw).mono ?_
            rintro e w3 ⟨cp, cc, rfl, hoc, hx3⟩
            have hb3 := hx.trans hx3
            have hk3 := hxw.trans hx3
            clear d0 d1 hs
            have d0 := hb3.cell0 0
            have d1 := hb3.cell0 1
            simp only [List.getElem?_toArray, List.getElem?_cons_zero, List.getElem?_cons_succ] at d0 d1
            have hs := hb3.lt0
            go_wp2_with fail
            rw [e1.out, e2.out]
            refine (HC2.out _ hk3).mono ?_
            rintro e w4 ⟨dp, dc, rfl, hod, hx4⟩
            have hb4 := hb3.trans hx4
            have hk4 := hk3.trans hx4
            have hcA := (hoc.at_).mono hx4
            have hdA := hod.at_
            clear d0 d1 hs hoc hod
            have hgt : decide ((d.length : Int) < (c.length : Int)) = false := by simp; omega
            go_wp2_with fail
            go_loopw [23, 24] (fun kk ii wr => ∃ j i : Nat, i ≤ d.length ∧ j ≤ c.length ∧ kk = .int .i64 j ∧ ii = .int .i64 i ∧ Hid ((c.drop j).Sublist (d.drop i)) ∧ Ext w4 wr) (fun _ ii _ => d.length - (intOf ii).toNat)
            case atStart => exact ⟨0, 0, Nat.zero_le _, Nat.zero_le _, rfl, rfl, HSUB.out, Ext.refl _⟩
            case round =>
              obtain ⟨j, i, hi, hj, rfl, rfl, HS, hx5⟩ := hrel
              by_cases hid : i < d.length
              · by_cases hjc : j < c.length
                · obtain ⟨b1, o1, rfl, hb1, c1⟩ := (hcA.mono hx5).cells hjc
                  obtain ⟨b2, o2, rfl, hb2, c2⟩ := (hdA.mono hx5).cells hid
                  obtain ⟨s1, s2⟩ := sub_step hid hjc HS.out
                  have S1 := Lib.hid s1
                  have S2 := Lib.hid s2
                  clear s1 s2
                  go_wp2_with fail
                  by_cases heq : rn d i = rn c j
                  · have g1 : (rn d i == rn c j) = true := by rw [beq_iff_eq]; exact heq
                    have S3 := Lib.hid (S1.out heq)
                    clear heq
                    (refine wp_region_ext (by kernel_rfl) (by kernel_rfl) ?_; intro ι hι g hg; have q_c1 := hg.cell c1; have q_c2 := hg.cell c2; clear c1 c2; (repeat (go_big_quiet_step (fail))); refine wpQuiet_nil ?_; rintro w6 ⟨i2, rfl⟩; have hq6 := hg.ext i2; generalize g i2 = w6 at hq6 ⊢; clear q_c1 q_c2 i2 hg g hι ι)
                    go_wp2_with fail
                    exact ⟨⟨j + 1, i + 1, by omega, by omega, by go_num, by go_num, S3.out, hx5.trans hq6⟩, by simp [intOf]; omega⟩
                  · have g1 : (rn d i == rn c j) = false := by rw [beq_eq_false_iff_ne]; exact heq
                    have S3 := Lib.hid (S2.out heq)
                    (refine wp_region_ext (by kernel_rfl) (by kernel_rfl) ?_; intro ι hι g hg; have q_c1 := hg.cell c1; have q_c2 := hg.cell c2; clear c1 c2; (repeat (go_big_quiet_step (fail))); refine wpQuiet_nil ?_; rintro w6 ⟨i2, rfl⟩; have hq6 := hg.ext i2; generalize g i2 = w6 at hq6 ⊢; clear q_c1 q_c2 i2 hg g hι ι)
                    go_wp2_with fail
                    exact ⟨⟨j, i + 1, by omega, by omega, rfl, by go_num, S3.out, hx5.trans hq6⟩, by simp [intOf]; omega⟩
                · have hjl : j = c.length := by omega
                  subst hjl
                  go_wp2_with fail
                  go_ret
                  exact ⟨by simp, hk4.trans hx5⟩
              · have hjl : j = c.length := by have := sub_end (Nat.le_of_not_lt hid) HS.out; omega
                subst hjl
                go_wp2_with fail
                go_ret
                exact ⟨by simp, hk4.trans hx5⟩
    · obtain ⟨hP0, hM0⟩ := least_zero h0
      have hne : (leastE A l != 0) = true := by rw [bne_iff_ne]; exact h0
      refine (HL.out _ hk1).mono ?_
      rw [hP0, hM0]
      rintro e w2 ⟨rfl, hx2⟩
      have hb2 := hb1.trans hx2
      have hk2 := hk1.trans hx2
      go_wp2_with fail
      go_ret
      exact ⟨rfl, hk2⟩
  · have hd300 : decide (300 < (l.length : Int)) = true := by simp; omega
    go_enter Tryd.func7, Tryd.ntmps7
    go_wp2_with fail
    refine (alive_any _).mono ?_
    rintro e w1 ⟨rfl, hx1⟩
    go_wp2_with fail
    go_ret
    exact ⟨rfl, hx0.trans hx1⟩
end Go.Proofs.YtppbjeipfopehaaDoor
