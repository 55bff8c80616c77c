/- The law DoubleSquares, walked: of any alphabet and word it returns true; memory only gains blocks. Conditions: the library's two tables lie in memory. -/
import Derived.Test.YtcjdpicepjoeoaaDoorDoube
import Derived.Test.YtcjdpicepjoeoaaDoorDoubi
namespace Go.Proofs.YtcjdpicepjoeoaaDoor
open Go.RowKit Go.Cg Go.Shelf Go.Maps

theorem rb_small2 {l : List Int} (h : l.length ≤ 128) : (runesBytes l).size ≤ 140737488351232 := by
  have := rb_size_le l; omega
theorem runsTo_mem (l : List Int) : ∀ k, ∀ x ∈ runsTo l k, x.1 < k ∧ x.2 = lastSq l x.1 l.length ∧ x.2 ≠ 0
  | 0, x, h => by cases h
  | k + 1, x, h => by
    rw [runsTo] at h
    split at h
    · obtain ⟨a, b⟩ := runsTo_mem l k x h; exact ⟨by omega, b⟩
    · rename_i hne
      rcases List.mem_append.1 h with h | h
      · obtain ⟨a, b⟩ := runsTo_mem l k x h; exact ⟨by omega, b⟩
      · rw [List.mem_singleton.1 h]; exact ⟨Nat.lt_succ_self _, rfl, hne⟩
theorem runsTo_sorted (l : List Int) : ∀ k, (runsTo l k).Pairwise fun x y => x.1 < y.1
  | 0 => List.Pairwise.nil
  | k + 1 => by
    rw [runsTo]
    split
    · exact runsTo_sorted l k
    · rw [List.pairwise_append]
      refine ⟨runsTo_sorted l k, List.pairwise_singleton _ _, fun x hx y hy => ?_⟩
      rw [List.mem_singleton.1 hy]
      exact (runsTo_mem l k x hx).1
/-- what a run is -/
theorem runs_at {l : List Int} {i a b : Nat} (hi : i < (runsL l).length) (he : (runsL l).getD i (0, 0) = (a, b)) : a + 2 ≤ b ∧ b ≤ l.length ∧ sq (cutL l a b) = true ∧ (b - a) % 2 = 0 := by
  have hm : (a, b) ∈ runsL l := by
    rw [List.getD_eq_getElem?_getD, List.getElem?_eq_getElem hi] at he
    have : (runsL l)[i] = (a, b) := he
    rw [← this]; exact List.getElem_mem hi
  obtain ⟨h1, h2, h3⟩ := runsTo_mem l _ _ hm
  simp only at h1 h2 h3
  obtain ⟨h4, h5⟩ := lastSq_pos l a l.length (by rw [← h2]; exact h3)
  rw [← h2] at h4 h5
  have h6 := lastSq_le l a l.length
  rw [← h2] at h6
  have h7 := (sq_iff.1 h5).1
  rw [cutL_length _ _ _ h6] at h7
  exact ⟨h4, h6, h5, h7⟩
theorem runs_next {l : List Int} {i : Nat} (hi : i + 1 < (runsL l).length) : ((runsL l).getD i (0, 0)).1 < ((runsL l).getD (i + 1) (0, 0)).1 := by
  have := List.pairwise_iff_getElem.1 (runsTo_sorted l l.length) i (i + 1) (show i < (runsL l).length by omega) hi (by omega)
  rw [List.getD_eq_getElem?_getD, List.getD_eq_getElem?_getD, List.getElem?_eq_getElem (show i < (runsL l).length by omega), List.getElem?_eq_getElem hi]
  exact this
theorem cutL_InA {A : Alpha} {l : List Int} (h : InA A l) (i j : Nat) : InA A (cutL l i j) := InA_take (InA_drop h i) _
/-- a square's period, and what is single of it -/
theorem square_facts {A : Alpha} (hA : A.Ok) {p : List Int} (hp : InA A p) (h64 : p.length ≤ 64) (h2 : 2 ≤ p.length) (hs : sq p = true) :
    periodL p ≤ p.length / 2 ∧ singleE A (runesBytes p) 0 = 0 ∧ singleB A (runesBytes p) 0 = true ∧ singleS A (runesBytes p) 0 = runesBytes (p.take (p.length / 2)) ∧ runesBytes (p.take (p.length / 2)) ++ runesBytes (p.take (p.length / 2)) = runesBytes p := by
  obtain ⟨hev, hh⟩ := sq_iff.1 hs
  obtain ⟨_, _, _, h4⟩ := periodL_spec p
  have hper : perB p (p.length / 2) = true := by
    unfold perB
    rw [decide_eq_true_iff, show p.length - p.length / 2 = p.length / 2 by omega]
    exact hh.symm
  obtain ⟨e1, e2, e3⟩ := single_of hA hp h64 (m := 0) (by omega)
  have hcut : cutN p 0 = p.length / 2 := if_pos rfl
  have hd : isDbl p 0 = true := by
    unfold isDbl
    rw [hcut, decide_eq_true ⟨by omega, by omega, fun h => by omega⟩, Bool.true_and, List.take_of_length_le (by omega)]
    exact hs
  refine ⟨?_, e1, e2.trans hd, ?_, ?_⟩
  · by_cases h : periodL p ≤ p.length / 2
    · exact h
    · have := h4 (p.length / 2) (by omega) (by omega)
      rw [hper] at this; cases this
  · have := e3 hd
    rw [hcut, ← hh] at this
    exact this
  · rw [← rb_append, ← sq_halves hs]

set_option maxRecDepth 100000 in
set_option maxHeartbeats 4000000 in
theorem doubleSquares_any (fp lp : Option Addr) (fc lc : Nat) (A : Alpha) (s : ByteArray) (hs : s.size ≤ 140737488351232) (w : World) (hA : AlphaAt w fp lp A) (hT : Tabs w) :
    Calls Tryd.prog 5 #[.agg #[.slice fp A.feats.length fc, .slice lp A.lets.length lc], .string s] w fun e w' => e = .returned (.bool true) ∧ Ext w w' := by
  have hx0 : Ext w (w.alloc (.cells #[.slice fp A.feats.length fc, .slice lp A.lets.length lc] 25)) := (Ext.refl _).alloc _
  have hL := fun W hW => letters_any fp lp fc lc A s hs W (hA.mono hW) (hT.ext hW)
  have hR := fun W hW => runs_any fp lp fc lc A s hs W (hA.mono hW) (hT.ext hW)
  have hP := fun W hW => period_any fp lp fc lc A s hs W (hA.mono hW) (hT.ext hW)
  have hSg := fun s' n' hs' hn' W hW => single_any fp lp fc lc A s' n' hs' hn' W (hA.mono hW) (hT.ext hW)
  have hPs := fun s' hs' W hW => period_any fp lp fc lc A s' hs' W (hA.mono hW) (hT.ext hW)
  have hPt := fun i j he hij hj W hW => part_any fp lp fc lc A s i j hs he hij hj W (hA.mono hW) (hT.ext hW)
  have HSg := Lib.hid hSg
  have HPs := Lib.hid hPs
  have HPt := Lib.hid hPt
  clear hSg hPs hPt
  have h64 := spell_len A s
  by_cases h0 : (spell A s).2 = 0
  · obtain ⟨hok, hsl, hin, _⟩ := spell_ok h0
    obtain ⟨l, hl⟩ : ∃ l, (spell A s).1 = l := ⟨_, rfl⟩
    rw [hl] at hsl hin h64
    rw [h0, hl] at hL hR hP
    have hPt2 := fun i j hij hj => HPt.out i j h0 hij hj
    rw [hl] at hPt2
    have HPt2 := Lib.hid hPt2
    have HL := Lib.hid hL
    have HR := Lib.hid hR
    have HP := Lib.hid hP
    clear hL hR hP hPt2 HPt hl hsl h0
    obtain ⟨sp1, sp2, sp3, sp4⟩ := periodL_spec l
    obtain ⟨pd, hpd⟩ : ∃ pd, periodL l = pd := ⟨_, rfl⟩
    rw [hpd] at HP sp1 sp2 sp3 sp4
    have HSP := Lib.hid sp4
    have HSP1 := Lib.hid sp1
    clear sp4 sp1 hpd
    have hz64 : (runsL l).length ≤ 64 := Nat.le_trans (runsTo_len _ _) h64
    have hra := fun i a b h => runs_at (l := l) (i := i) (a := a) (b := b) h
    have hrn := fun i h => runs_next (l := l) (i := i) h
    obtain ⟨z, hz⟩ : ∃ z, runsL l = z := ⟨_, rfl⟩
    rw [hz] at HR hz64 hra hrn
    have HRA := Lib.hid hra
    have HRN := Lib.hid hrn
    clear hra hrn hz
    have hpz : (!(((pd : Int) == 0) == ((l.length : Int) == 0))) = false := by
      by_cases e : pd = 0
      · have := sp3.1 e; rw [e, this]; rfl
      · have : l.length ≠ 0 := fun h => e (sp3.2 h)
        have e1 : ((pd : Int) == 0) = false := by rw [beq_eq_false_iff_ne]; omega
        have e2 : ((l.length : Int) == 0) = false := by rw [beq_eq_false_iff_ne]; omega
        rw [e1, e2]; rfl
    have hg1 : decide ((pd : Int) < 0) = false := decide_eq_false (by omega)
    have hg2 : decide (l.length < pd) = false := decide_eq_false (by omega)
    go_enter Tryd.func5, Tryd.ntmps5
    go_wp2_with (go_at_call 7; refine (awake_any _ (hT.ext hx0)).mono ?_; rintro e w1 ⟨rfl, hx1⟩; have d0 := hx1.cell0 0; have d1 := hx1.cell0 1; simp at d0 d1)
    refine (HL.out _ hx1.box).mono ?_
    rintro e w2 ⟨rp, rc, rfl, ho, hx2⟩
    have hy2 := hx1.trans hx2
    clear d0 d1
    have d0 := hy2.cell0 0; have d1 := hy2.cell0 1; simp at d0 d1
    go_wp2_with fail
    refine (HR.out _ hy2.box).mono ?_
    rintro e w3 ⟨zp, zc, rfl, hown, hx3⟩
    have hy3 := hy2.trans hx3
    clear d0 d1
    have d0 := hy3.cell0 0; have d1 := hy3.cell0 1; simp at d0 d1
    go_wp2_with fail
    refine (HP.out _ hy3.box).mono ?_
    rintro e w4 ⟨rfl, hx4⟩
    have hy4 := hy3.trans hx4
    clear d0 d1
    have hzs := (SpanAt.of_own hown).mono hx4
    have ho4 := (ho.ext hx3).ext hx4
    go_wp2_with fail
    go_loopw [12, 13] (fun at_ i wr => ∃ (k : Nat) (a : Int), k ≤ z.length ∧ at_ = .int .i64 a ∧ i = .int .i64 k ∧ Ext w4 wr ∧ -1 ≤ a ∧ Hid (k < z.length → a < (((z.getD k (0, 0)).1 : Nat) : Int))) (fun _ i _ => z.length - (intOf i).toNat)
    case atStart => exact ⟨0, -1, Nat.zero_le _, rfl, by go_num, Ext.refl _, by omega, fun _ => by omega⟩
    case round =>
      obtain ⟨k, a, hk, rfl, rfl, hx, ha1, HA⟩ := hrel
      have hyr := hy4.trans hx
      by_cases hlt : k < z.length
      · obtain ⟨zb, zo, rfl, hzb, c0, c1⟩ := (hzs.mono hx).cells hlt
        obtain ⟨a', b', hab⟩ : ∃ a' b', z.getD k (0, 0) = (a', b') := ⟨_, _, rfl⟩
        have hat := HA.out hlt
        rw [hab] at c0 c1 hat
        simp only at c0 c1 hat
        obtain ⟨r1, r2, r3, r4⟩ := HRA.out k a' b' hlt hab
        have hpl : (cutL l a' b').length = b' - a' := cutL_length _ _ _ r2
        have hpA := cutL_InA hin a' b'
        obtain ⟨u1, u2, u3, u4, u5⟩ := square_facts hok hpA (by omega) (by omega) r3
        have hsp := spell_rb hok hpA (by omega)
        have hpsz := rb_small2 (l := cutL l a' b') (by omega)
        have hhsz := rb_size_le ((cutL l a' b').take ((cutL l a' b').length / 2))
        rw [List.length_take] at hhsz
        have hpx := fun W hW => HPs.out (runesBytes (cutL l a' b')) hpsz W hW
        rw [hsp] at hpx
        simp only at hpx
        have hsx := fun W hW => HSg.out (runesBytes (cutL l a' b')) 0 hpsz (by omega) W hW
        rw [u2, u3, u4] at hsx
        have htx := fun W hW => HPt2.out a' b' (by omega) r2 W hW
        obtain ⟨H, hH⟩ : ∃ H, runesBytes ((cutL l a' b').take ((cutL l a' b').length / 2)) = H := ⟨_, rfl⟩
        obtain ⟨PP, hPP⟩ : ∃ PP, runesBytes (cutL l a' b') = PP := ⟨_, rfl⟩
        obtain ⟨pl, hpl2⟩ : ∃ pl, periodL (cutL l a' b') = pl := ⟨_, rfl⟩
        rw [hpl2] at u1 hpx
        rw [hH, hPP] at hsx u5
        rw [hPP] at htx hpx
        rw [hH] at hhsz
        rw [hpl] at u1 hhsz
        have HPX := Lib.hid hpx
        have HSX := Lib.hid hsx
        have HTX := Lib.hid htx
        have hs1 : (H.size : Int) ≤ 8388608 := by omega
        have hs2 : H.size + H.size ≤ 9223372036854775807 := by omega
        have HRN1 := Lib.hid (HRN.out k)
        clear hpx hsx htx hH hPP hpl2 hpl u2 u3 u4 hsp hpA r3 hpsz hhsz
        have d0 := hyr.cell0 0; have d1 := hyr.cell0 1; simp at d0 d1
        have hl7 := hyr.lt0
        have hmod : (((b' : Int) - a') % 2 != 0) = false := by rw [bne_eq_false_iff_eq]; omega
        go_wp2_with (first | (go_at_call 17; refine (HTX.out _ (hyr.alloc _).box).mono ?_; rintro e w5 ⟨rfl, hx5⟩; have hy5 := (hyr.alloc _).trans hx5; have e0 := hy5.cell0 0; have e1 := hy5.cell0 1; simp at e0 e1) | (go_at_call 10; refine (HPX.out _ hy5.box).mono ?_; rintro e w6 ⟨rfl, hx6⟩; have hy6 := hy5.trans hx6; have f0 := hy6.cell0 0; have f1 := hy6.cell0 1; simp at f0 f1) | (go_at_call 15; refine (HSX.out _ hy6.box).mono ?_; rintro e w7 ⟨rfl, hx7⟩))
        refine ⟨⟨k + 1, a', by omega, rfl, by go_num, (((hx.alloc _).trans hx5).trans hx6).trans hx7, by omega, fun h => ?_⟩, by simp [intOf]; omega⟩
        have := HRN1.out h
        rw [hab] at this
        simp only at this
        omega
      · go_wp2_with fail
        go_loopw [23] (fun i wq => ∃ q : Nat, 1 ≤ q ∧ q ≤ pd + 1 ∧ i = .int .i64 q ∧ Ext w4 wq) (fun i _ => pd + 1 - (intOf i).toNat)
        case atStart => exact ⟨1, Nat.le_refl _, by omega, by go_num, hx⟩
        case round =>
          obtain ⟨q, hq1, hq, rfl, hx9⟩ := hrel
          by_cases hqp : q ≤ pd
          · obtain ⟨g, rfl, hgc, hgb⟩ := OwnRunes_some ho4 (by omega)
            go_wp2_with fail
            have hxq := hx9
            clear hx9
            go_loopw [24, 25] (fun b i wi => ∃ j : Nat, q ≤ j ∧ j ≤ l.length ∧ b = .bool (perTo l q j) ∧ i = .int .i64 j ∧ Ext w4 wi) (fun _ i _ => l.length - (intOf i).toNat)
            case atStart => exact ⟨q, Nat.le_refl _, by omega, by rw [perTo_start], rfl, hxq⟩
            case round =>
              obtain ⟨j, hj1, hj2, rfl, rfl, hxi⟩ := hrel
              by_cases hjl : j < l.length
              · cases hp : perTo l q j
                · have hst := perTo_no hp
                  have HST := Lib.hid hst
                  clear hst
                  go_wp2_with fail
                  (refine wp_region_ext (by kernel_rfl) (by kernel_rfl) ?_; intro ι hι g hg; (repeat (go_big_quiet_step (fail))); refine wpQuiet_nil ?_; rintro w9 ⟨i2, rfl⟩; have hq9 := hg.ext i2; generalize g i2 = w9 at hq9 ⊢; clear  i2 hg g hι ι)
                  go_wp2_with fail
                  refine ⟨⟨j + 1, by omega, by omega, by rw [HST.out], by go_num, hxi.trans hq9⟩, by simp [intOf]; omega⟩
                · have hst := perTo_step hj1 hp
                  have HST := Lib.hid hst
                  clear hst
                  have hro := ho4.at_.mono hxi
                  obtain ⟨_, c0⟩ := hro.cell hjl
                  obtain ⟨_, d0⟩ := hro.cell (show j - q < l.length by omega)
                  rw [Nat.zero_add] at c0 d0
                  clear hro
                  go_wp2_with fail
                  (refine wp_region_ext (by kernel_rfl) (by kernel_rfl) ?_; intro ι hι g hg; have q_c0 := hg.cell c0; have q_d0 := hg.cell d0; clear c0 d0; (repeat (go_big_quiet_step (fail))); refine wpQuiet_nil ?_; rintro w9 ⟨i2, rfl⟩; have hq9 := hg.ext i2; generalize g i2 = w9 at hq9 ⊢; clear q_c0 q_d0 i2 hg g hι ι)
                  go_wp2_with fail
                  refine ⟨⟨j + 1, by omega, by omega, by rw [HST.out], by go_num, hxi.trans hq9⟩, by simp [intOf]; omega⟩
              · have e : j = l.length := by omega
                subst e
                have he := perTo_end (show q ≤ l.length by omega)
                by_cases hqe : q = pd
                · have hp : perB l q = true := by rw [hqe]; exact HSP1.out
                  rw [hp] at he
                  rw [he]
                  have hqe2 : ((q : Int) == pd) = true := by rw [beq_iff_eq, hqe]
                  clear he hp
                  go_wp2_with fail
                  refine ⟨⟨q + 1, by omega, by omega, by first | (go_num; done) | (simp; omega), hxi⟩, by simp [intOf]; omega⟩
                · have hp := HSP.out q hq1 (by omega)
                  rw [hp] at he
                  rw [he]
                  have hqe2 : ((q : Int) == pd) = false := by rw [beq_eq_false_iff_ne]; omega
                  clear he hp
                  go_wp2_with fail
                  refine ⟨⟨q + 1, by omega, by omega, by first | (go_num; done) | (simp; omega), hxi⟩, by simp [intOf]; omega⟩
          · go_wp2_with fail
            go_ret
            exact ⟨rfl, (hy4.trans hx9).box⟩
  · have hl := spell_err h0
    rw [hl] at hL hR hP
    obtain ⟨er, her⟩ : ∃ er, (spell A s).2 = er := ⟨_, rfl⟩
    rw [her] at h0 hL hR hP
    have HL := Lib.hid hL
    have HR := Lib.hid hR
    have HP := Lib.hid hP
    clear hL hR hP her hl HSg HPs HPt h64
    have hne : (er != 0) = true := by rw [bne_iff_ne]; exact h0
    go_enter Tryd.func5, Tryd.ntmps5
    go_wp2_with (first | (go_at_call 7; refine (awake_any _ (hT.ext hx0)).mono ?_; rintro e w1 ⟨rfl, hx1⟩; have d0 := hx1.cell0 0; have d1 := hx1.cell0 1; simp at d0 d1) | (go_at_call 13; refine (HL.out _ hx1.box).mono ?_; rintro e w2 ⟨rp, rc, rfl, ho, hx2⟩; have hy2 := hx1.trans hx2; have e0 := hy2.cell0 0; have e1 := hy2.cell0 1; simp at e0 e1) | (go_at_call 8; refine (HR.out _ hy2.box).mono ?_; rintro e w3 ⟨zp, zc, rfl, hown, hx3⟩; have hy3 := hy2.trans hx3; have f0 := hy3.cell0 0; have f1 := hy3.cell0 1; simp at f0 f1) | (go_at_call 10; refine (HP.out _ hy3.box).mono ?_; rintro e w4 ⟨rfl, hx4⟩))
    go_ret
    exact ⟨rfl, hy3.box.trans hx4⟩

end Go.Proofs.YtcjdpicepjoeoaaDoor
