/- The law RadicalBack, walked. -/
import Derived.Test.YtnngljflnfjppaaDoorRadl
import Derived.Test.YtnngljflnfjppaaDoorRadf
import Derived.Deep.CutRange
namespace Go.Proofs.YtnngljflnfjppaaDoor
open Go.RowKit Go.Cg Go.Shelf Go.Maps

theorem rb_small64 {l : List Int} (h : l.length ≤ 128) : (runesBytes l).size ≤ 140737488351232 := by
  have := runesBytes_size_le l; omega
theorem radS_small (A : Alpha) (s : ByteArray) (p : Nat) : (radS A s p).size ≤ 140737488351232 := by
  unfold radS; split
  · exact rb_small64 (Nat.le_trans (List.length_filter_le ..) (Nat.le_trans (spell_len A s) (by decide)))
  · decide
theorem shapeS_small (A : Alpha) (s : ByteArray) (p : Nat) : (shapeS A s p).size ≤ 140737488351232 := by
  unfold shapeS; split
  · exact rb_small64 (by rw [List.length_map]; exact Nat.le_trans (spell_len A s) (by decide))
  · decide
theorem mergeS_small (A : Alpha) (r nm fm : ByteArray) : (mergeS A r nm fm).size ≤ 140737488351232 := by
  unfold mergeS; split
  · exact rb_small64 (by rw [fillTo_len]; exact Nat.le_trans (formL_len A fm) (by decide))
  · decide
theorem splitS_small (A : Alpha) (s nm fm : ByteArray) : (splitS A s nm fm).size ≤ 140737488351232 := by
  unfold splitS; split
  · exact rb_small64 (Nat.le_trans (atHoles_le _ _ _) (Nat.le_trans (formL_len A fm) (by decide)))
  · decide
theorem skL_len (A : Alpha) (r s : ByteArray) : (skL A r s).length ≤ 64 := by
  unfold skL; split
  · have := (skipTo_len (spell A r).1 (spell A s).1 (spell A s).1.length).2
    have := spell_len A r
    omega
  · simp
theorem sorted_nth {l : List Nat} (h : l.Pairwise (· < ·)) {i : Nat} (hi : i + 1 < l.length) : nth l i < nth l (i + 1) := by
  rw [nth_eq (show i < l.length by omega), nth_eq hi]
  exact List.pairwise_iff_getElem.1 h i (i + 1) _ _ (Nat.lt_succ_self i)

set_option maxRecDepth 100000 in
set_option maxHeartbeats 8000000 in
theorem radicalBack_any (fp lp : Option Addr) (fc lc : Nat) (A : Alpha) (r : ByteArray) (hr : r.size ≤ 140737488351232) (s : ByteArray) (hs : s.size ≤ 140737488351232) (nm fm : ByteArray) (hn : nm.size ≤ 140737488351232) (hf : fm.size ≤ 140737488351232) (p : Nat) (hp : p < 4294967296) (w : World) (hA : AlphaAt w fp lp A) (hT : Tabs w) :
    Calls Tryd.prog 6 #[.agg #[.slice fp A.feats.length fc, .slice lp A.lets.length lc], .string r, .string s, .agg #[.string nm, .string fm], .int .u32 p] w fun e w' => e = .returned (.bool true) ∧ Ext w w' := by
  have hx4 : Ext w ((w.alloc (.cells #[.slice fp A.feats.length fc, .slice lp A.lets.length lc] 26)).alloc (.cells #[.string nm, .string fm] 41)) := ((Ext.refl _).alloc _).alloc _
  have hxb : Ext (w.alloc (.cells #[.slice fp A.feats.length fc, .slice lp A.lets.length lc] 26)) ((w.alloc (.cells #[.slice fp A.feats.length fc, .slice lp A.lets.length lc] 26)).alloc (.cells #[.string nm, .string fm] 41)) := (Ext.refl _).alloc _
  have hbx : ∀ W, Ext ((w.alloc (.cells #[.slice fp A.feats.length fc, .slice lp A.lets.length lc] 26)).alloc (.cells #[.string nm, .string fm] 41)) W → W.cell? ⟨w.heap.size + 1, 0, none⟩ = some (.string nm) ∧ W.cell? ⟨w.heap.size + 1, 1, none⟩ = some (.string fm) ∧ W.cell? ⟨w.heap.size, 0, none⟩ = some (.slice fp A.feats.length fc) ∧ W.cell? ⟨w.heap.size, 1, none⟩ = some (.slice lp A.lets.length lc) ∧ w.heap.size + 1 < W.heap.size ∧ w.heap.size < W.heap.size := fun W hW => by
    have e0 := hW.cell0 0
    have e1 := hW.cell0 1
    have b0 := (hxb.trans hW).cell0 0
    have b1 := (hxb.trans hW).cell0 1
    have l0 := hW.lt0
    rw [size_alloc] at e0 e1 l0
    exact ⟨e0, e1, b0, b1, l0, by omega⟩
  have hal := alive13_any ((w.alloc (.cells #[.slice fp A.feats.length fc, .slice lp A.lets.length lc] 26)).alloc (.cells #[.string nm, .string fm] 41)) (hT.ext hx4)
  have hlg := fun W hW => long13_any fp lp none fc lc 0 0 A r (by decide) hr W (hA.mono hW)
  -- the first stage's values
  have hM := fun W hW => merge_any fp lp fc lc A r nm fm hr hn hf W (hA.mono hW) (hT.ext hW)
  have hMS := fun W hW => split_word_any fp lp fc lc A (mergeS A r nm fm) nm fm (mergeS_small A r nm fm) hn hf W (hA.mono hW) (hT.ext hW)
  have hMK := fun W hW => skip_any fp lp fc lc A r (mergeS A r nm fm) hr (mergeS_small A r nm fm) W (hA.mono hW) (hT.ext hW)
  have hmv := fun h => merge_split (A := A) (r := r) (nm := nm) (fm := fm) h
  obtain ⟨ME, hME⟩ : ∃ v, mergeE A r nm fm = v := ⟨_, rfl⟩
  obtain ⟨MS, hMS0⟩ : ∃ v, mergeS A r nm fm = v := ⟨_, rfl⟩
  rw [hME] at hmv
  rw [hMS0] at hmv hMS hMK
  rw [hME, hMS0] at hM
  -- the second stage's values
  have hS := fun W hW => split_word_any fp lp fc lc A s nm fm hs hn hf W (hA.mono hW) (hT.ext hW)
  have hSM := fun W hW => merge_any fp lp fc lc A (splitS A s nm fm) nm fm (splitS_small A s nm fm) hn hf W (hA.mono hW) (hT.ext hW)
  have hsv := fun h1 h2 => split_merge (A := A) (s := s) (nm := nm) (fm := fm) h1 h2
  obtain ⟨SE, hSE⟩ : ∃ v, splitE A s nm fm = v := ⟨_, rfl⟩
  obtain ⟨SB, hSB⟩ : ∃ v, splitB A s nm fm = v := ⟨_, rfl⟩
  obtain ⟨SS, hSS⟩ : ∃ v, splitS A s nm fm = v := ⟨_, rfl⟩
  rw [hSE, hSB, hSS] at hsv hS
  rw [hSS] at hSM
  -- the third stage's values
  have hR := fun W hW => radicals_any fp lp fc lc A s p hs hp W (hA.mono hW) (hT.ext hW)
  have hH := fun W hW => shape_any fp lp fc lc A s p hs hp W (hA.mono hW) (hT.ext hW)
  have hRM := fun W hW => merge_any fp lp fc lc A (radS A s p) ⟨#[]⟩ (shapeS A s p) (radS_small A s p) (by decide) (shapeS_small A s p) W (hA.mono hW) (hT.ext hW)
  have hRR := fun W hW => radicals_any fp lp fc lc A (radS A s p) p (radS_small A s p) hp W (hA.mono hW) (hT.ext hW)
  have hRK := fun W hW => skip_any fp lp fc lc A (radS A s p) s (radS_small A s p) hs W (hA.mono hW) (hT.ext hW)
  have hRL := fun W hW => letters_any fp lp fc lc A (radS A s p) (radS_small A s p) W (hA.mono hW) (hT.ext hW)
  have hRH := fun W => holes_any ⟨#[]⟩ (shapeS A s p) W
  have hrb := fun h => rad_back (A := A) (s := s) (p := p) h
  have hre := fun h => rad_err (A := A) (s := s) (p := p) h
  have hkl := skL_len A (radS A s p) s
  obtain ⟨RE, hRE⟩ : ∃ v, radE A s p = v := ⟨_, rfl⟩
  obtain ⟨RS, hRS⟩ : ∃ v, radS A s p = v := ⟨_, rfl⟩
  obtain ⟨HS, hHS⟩ : ∃ v, shapeS A s p = v := ⟨_, rfl⟩
  rw [hRE, hRS] at hR
  rw [hRE, hHS] at hH
  rw [hRS, hHS] at hRM
  rw [hRS] at hRR hRK hRL hkl
  rw [hHS] at hRH
  rw [hRE, hRS, hHS] at hrb hre
  have HBX := Lib.hid hbx
  have HLG := Lib.hid hlg
  have HM := Lib.hid hM
  have HMS := Lib.hid hMS
  have HMK := Lib.hid hMK
  have HMV := Lib.hid hmv
  have HS1 := Lib.hid hS
  have HSM := Lib.hid hSM
  have HSV := Lib.hid hsv
  have HR := Lib.hid hR
  have HH := Lib.hid hH
  have HRM := Lib.hid hRM
  have HRR := Lib.hid hRR
  have HRK := Lib.hid hRK
  have HRL := Lib.hid hRL
  have HRH := Lib.hid hRH
  have HRB := Lib.hid hrb
  have HRE := Lib.hid hre
  clear hbx hlg hM hMS hMK hmv hS hSM hsv hR hH hRM hRR hRK hRL hRH hrb hre hME hMS0 hSE hSB hSS hRE hRS hHS
  go_enter Tryd.func6, Tryd.ntmps6
  go_upto_if 63 with (first | (go_at_call 31; refine hal.mono ?_; rintro e w1 ⟨rfl, hx1⟩; have hy1 := hx4.trans hx1; obtain ⟨e0, e1, b0, b1, l0, l9⟩ := HBX.out _ hx1) | (go_at_call 12; refine (HLG.out _ hy1).mono ?_; rintro e w2 ⟨⟨B, rfl⟩, hx2⟩; have hy2 := hy1.trans hx2; have hz2 := hx1.trans hx2; obtain ⟨e0, e1, b0, b1, l0, l9⟩ := HBX.out _ hz2; cases B) | (go_at_call 20; refine (HM.out _ hy2).mono ?_; rintro e w3 ⟨rfl, hx3⟩))
  all_goals (try (go_ret; exact ⟨rfl, hy2⟩))
  have hy3 := hy2.trans hx3
  have hz3 := hz2.trans hx3
  clear e0 e1 b0 b1 l0 l9 hx1 hx2 hx3 hy1 hy2 hz2 hal HLG HM
  obtain ⟨e0, e1, b0, b1, l0, l9⟩ := HBX.out _ hz3
  go_cut [14, 15, 16, 17, 18, 19] from 64 to 98 (fun _ _ _ _ _ _ wx => Ext w3 wx)
  case first =>
    by_cases hme : ME = 0
    · obtain ⟨a1, a2, a3, a4, a5⟩ := HMV.out hme
      subst hme
      have h1 := HMS.out
      have h2 := HMK.out
      rw [a1, a2, a3] at h1
      rw [a4, a5] at h2
      have H1 := Lib.hid h1
      have H2 := Lib.hid h2
      clear h1 h2 a1 a2 a3 a4 a5
      go_wp2_with (first | (go_at_call 22; refine (H1.out _ hy3).mono ?_; rintro e w5 ⟨rfl, hx5⟩; obtain ⟨e0, e1, b0, b1, l0, l9⟩ := HBX.out _ (hz3.trans hx5)) | (go_at_call 17; refine (H2.out _ (hy3.trans hx5)).mono ?_; rintro e w6 ⟨kp, kc, rfl, hk1, hx6⟩))
      go_meet
      exact hx5.trans hx6
    · have g1 : (ME == 0) = false := by rw [beq_eq_false_iff_ne]; exact hme
      go_wp2_with fail
      go_meet
      exact Ext.refl _
  case rest =>
    clear e0 e1 b0 b1 l0 l9 HMS HMK HMV
    have hy4 := hy3.trans hcut
    have hz4 := hz3.trans hcut
    clear hcut
    obtain ⟨e0, e1, b0, b1, l0, l9⟩ := HBX.out _ hz4
    cases hse : (SE == 0)
    · go_upto_region 15 with (go_at_call 22; refine (HS1.out _ hy4).mono ?_; rintro e w5 ⟨rfl, hx5⟩)
      obtain ⟨wq, rfl⟩ : ∃ wq : World, wq = w5 := ⟨_, rfl⟩
      have hyq := hy4.trans hx5
      have hzq := hz4.trans hx5
      clear e0 e1 b0 b1 l0 l9 hx5 hy3 hz3 hy4 hz4 HS1 HSM HSV
      obtain ⟨e0, e1, b0, b1, l0, l9⟩ := HBX.out _ hzq
      by_cases hre : RE = 0
      · obtain ⟨a1, a2, a3, a4, a5, a6, a7, a8, a9, a10⟩ := HRB.out hre
        subst hre
        have h1 := HRM.out
        have h2 := HRR.out
        have h3 := HRK.out
        have h4 := HRL.out
        have h5 := HRH.out
        rw [a1, a2] at h1
        rw [a3, a4] at h2
        rw [a5, a6] at h3
        rw [a7, ← a8] at h4
        rw [a9, ← a8] at h5
        obtain ⟨KL, hKL⟩ : ∃ KL, skL A RS s = KL := ⟨_, rfl⟩
        rw [hKL] at h3 h4 h5 a10 hkl
        have H1 := Lib.hid h1
        have H2 := Lib.hid h2
        have H3 := Lib.hid h3
        have H4 := Lib.hid h4
        have H5 := Lib.hid h5
        have HPW := Lib.hid a10
        clear h1 h2 h3 h4 h5 a1 a2 a3 a4 a5 a6 a7 a8 a9 a10 hKL HRM HRR HRK HRL HRH HRB HRE
        go_wp2_with fail
        refine (HR.out _ hyq).mono ?_
        rintro e w6 ⟨rfl, hx6⟩
        have hy6 : Ext w w6 := hyq.trans hx6
        have hz6 := hzq.trans hx6
        clear e0 e1 b0 b1 l0 l9
        obtain ⟨e0, e1, b0, b1, l0, l9⟩ := HBX.out _ hz6
        go_wp2_with fail
        refine (HH.out _ hy6).mono ?_
        rintro e w7 ⟨rfl, hx7⟩
        have hy7 : Ext w w7 := hy6.trans hx7
        have hz7 := hz6.trans hx7
        clear e0 e1 b0 b1 l0 l9
        obtain ⟨e0, e1, b0, b1, l0, l9⟩ := HBX.out _ hz7
        go_wp2_with fail
        refine (H1.out _ (hy7.alloc _)).mono ?_
        rintro e w8 ⟨rfl, hx8⟩
        have hy8 : Ext w w8 := (hy7.alloc _).trans hx8
        have hz8 := (hz7.alloc _).trans hx8
        clear e0 e1 b0 b1 l0 l9
        obtain ⟨e0, e1, b0, b1, l0, l9⟩ := HBX.out _ hz8
        go_wp2_with fail
        refine (H2.out _ hy8).mono ?_
        rintro e w9 ⟨rfl, hx9⟩
        have hy9 : Ext w w9 := hy8.trans hx9
        have hz9 := hz8.trans hx9
        clear e0 e1 b0 b1 l0 l9
        obtain ⟨e0, e1, b0, b1, l0, l9⟩ := HBX.out _ hz9
        go_wp2_with fail
        refine (H3.out _ hy9).mono ?_
        rintro e w10 ⟨kp, kc, rfl, hk1, hx10⟩
        have hy10 : Ext w w10 := hy9.trans hx10
        have hz10 := hz9.trans hx10
        clear e0 e1 b0 b1 l0 l9
        obtain ⟨e0, e1, b0, b1, l0, l9⟩ := HBX.out _ hz10
        go_wp2_with fail
        refine (H4.out _ hy10).mono ?_
        rintro e w11 ⟨np, nc, rfl, ho, hx11⟩
        have hy11 : Ext w w11 := hy10.trans hx11
        have hz11 := hz10.trans hx11
        clear e0 e1 b0 b1 l0 l9
        obtain ⟨e0, e1, b0, b1, l0, l9⟩ := HBX.out _ hz11
        have ht : Ext (w7.alloc (.cells #[.string ⟨#[]⟩, .string HS] 41)) w11 := ((hx8.trans hx9).trans hx10).trans hx11
        have t0 := ht.cell0 0
        have t1 := ht.cell0 1
        have t2 := ht.lt0
        simp at t0 t1
        have hrk := ownsRow_reads (ownsRow_ext hk1 hx11) (f := fun j => .int .i64 ((nth KL j : Nat) : Int)) (fun j hj => intCells_at (by omega))
        rw [Nat.mul_one] at hrk
        clear hk1 ho hx6 hx7 hx8 hx9 hx10 hx11 ht HR HH H1 H2 H3 H4 hyq hzq hy6 hz6 hy7 hz7 hy8 hz8 hy9 hz9 hy10 hz10
        go_wp2_with fail
        refine (H5.out _).mono ?_
        rintro e w12 ⟨rfl, hx12⟩
        have hy12 := hy11.trans hx12
        have hrk2 := hrk.mono hx12
        clear e0 e1 b0 b1 l0 l9 t0 t1 t2 hrk hx12 hz11 hy11
        go_wp2_with fail
        go_loopw [38] (fun i wr => ∃ d : Nat, i = .int .i64 ((d + 1 : Nat) : Int) ∧ d ≤ KL.length ∧ Ext w12 wr) (fun i _ => KL.length + 1 - (intOf i).toNat)
        case atStart => exact ⟨0, rfl, Nat.zero_le _, Ext.refl _⟩
        case round =>
          obtain ⟨d, rfl, hd, hx⟩ := hrel
          by_cases hlt : d + 1 < KL.length
          · obtain ⟨b, off, rfl, hbw, hcs⟩ := (hrk2.mono hx).cells_ (j := 0) (by omega)
            have c0 := hcs d (by omega)
            have c1 := hcs (d + 1) hlt
            have hs := sorted_nth HPW.out hlt
            have g1 : decide ((nth KL (d + 1) : Int) ≤ nth KL d) = false := decide_eq_false (by omega)
            clear hcs
            go_wp2_with fail
            (refine wp_region_ext (by kernel_rfl) (by kernel_rfl) ?_; intro ι hι g hg; have q_c0 := hg.cell c0; have q_c1 := hg.cell c1; clear c0 c1; (repeat (go_big_quiet_step (fail))); refine wpQuiet_nil ?_; rintro w5 ⟨i2, rfl⟩; have hq := hg.ext i2; generalize g i2 = w5 at hq ⊢; clear q_c0 q_c1 i2 hg g hι ι)
            go_wp2_with fail
            exact ⟨⟨d + 1, by go_num, by omega, hx.trans hq⟩, by simp [intOf]; omega⟩
          · go_wp2_with fail
            go_ret
            exact ⟨rfl, hy12.trans hx⟩
      · obtain ⟨a1, a2⟩ := HRE.out hre
        subst a1
        subst a2
        have g1 : (RE != 0) = true := by rw [bne_iff_ne]; exact hre
        clear HRM HRR HRK HRL HRH HRB HRE
        go_wp2_with fail
        refine (HR.out _ hyq).mono ?_
        rintro e w6 ⟨rfl, hx6⟩
        have hy6 : Ext w w6 := hyq.trans hx6
        have hz6 := hzq.trans hx6
        clear e0 e1 b0 b1 l0 l9
        obtain ⟨e0, e1, b0, b1, l0, l9⟩ := HBX.out _ hz6
        go_wp2_with fail
        refine (HH.out _ hy6).mono ?_
        rintro e w7 ⟨rfl, hx7⟩
        go_wp2_with fail
        go_ret
        exact ⟨rfl, (hy6.trans hx7).alloc _⟩
    · cases hsb : SB
      · go_upto_region 15 with (go_at_call 22; refine (HS1.out _ hy4).mono ?_; rintro e w5 ⟨rfl, hx5⟩; rw [hsb])
        obtain ⟨wq, rfl⟩ : ∃ wq : World, wq = w5 := ⟨_, rfl⟩
        have hyq := hy4.trans hx5
        have hzq := hz4.trans hx5
        clear e0 e1 b0 b1 l0 l9 hx5 hy3 hz3 hy4 hz4 HS1 HSM HSV
        obtain ⟨e0, e1, b0, b1, l0, l9⟩ := HBX.out _ hzq
        by_cases hre : RE = 0
        · obtain ⟨a1, a2, a3, a4, a5, a6, a7, a8, a9, a10⟩ := HRB.out hre
          subst hre
          have h1 := HRM.out
          have h2 := HRR.out
          have h3 := HRK.out
          have h4 := HRL.out
          have h5 := HRH.out
          rw [a1, a2] at h1
          rw [a3, a4] at h2
          rw [a5, a6] at h3
          rw [a7, ← a8] at h4
          rw [a9, ← a8] at h5
          obtain ⟨KL, hKL⟩ : ∃ KL, skL A RS s = KL := ⟨_, rfl⟩
          rw [hKL] at h3 h4 h5 a10 hkl
          have H1 := Lib.hid h1
          have H2 := Lib.hid h2
          have H3 := Lib.hid h3
          have H4 := Lib.hid h4
          have H5 := Lib.hid h5
          have HPW := Lib.hid a10
          clear h1 h2 h3 h4 h5 a1 a2 a3 a4 a5 a6 a7 a8 a9 a10 hKL HRM HRR HRK HRL HRH HRB HRE
          go_wp2_with fail
          refine (HR.out _ hyq).mono ?_
          rintro e w6 ⟨rfl, hx6⟩
          have hy6 : Ext w w6 := hyq.trans hx6
          have hz6 := hzq.trans hx6
          clear e0 e1 b0 b1 l0 l9
          obtain ⟨e0, e1, b0, b1, l0, l9⟩ := HBX.out _ hz6
          go_wp2_with fail
          refine (HH.out _ hy6).mono ?_
          rintro e w7 ⟨rfl, hx7⟩
          have hy7 : Ext w w7 := hy6.trans hx7
          have hz7 := hz6.trans hx7
          clear e0 e1 b0 b1 l0 l9
          obtain ⟨e0, e1, b0, b1, l0, l9⟩ := HBX.out _ hz7
          go_wp2_with fail
          refine (H1.out _ (hy7.alloc _)).mono ?_
          rintro e w8 ⟨rfl, hx8⟩
          have hy8 : Ext w w8 := (hy7.alloc _).trans hx8
          have hz8 := (hz7.alloc _).trans hx8
          clear e0 e1 b0 b1 l0 l9
          obtain ⟨e0, e1, b0, b1, l0, l9⟩ := HBX.out _ hz8
          go_wp2_with fail
          refine (H2.out _ hy8).mono ?_
          rintro e w9 ⟨rfl, hx9⟩
          have hy9 : Ext w w9 := hy8.trans hx9
          have hz9 := hz8.trans hx9
          clear e0 e1 b0 b1 l0 l9
          obtain ⟨e0, e1, b0, b1, l0, l9⟩ := HBX.out _ hz9
          go_wp2_with fail
          refine (H3.out _ hy9).mono ?_
          rintro e w10 ⟨kp, kc, rfl, hk1, hx10⟩
          have hy10 : Ext w w10 := hy9.trans hx10
          have hz10 := hz9.trans hx10
          clear e0 e1 b0 b1 l0 l9
          obtain ⟨e0, e1, b0, b1, l0, l9⟩ := HBX.out _ hz10
          go_wp2_with fail
          refine (H4.out _ hy10).mono ?_
          rintro e w11 ⟨np, nc, rfl, ho, hx11⟩
          have hy11 : Ext w w11 := hy10.trans hx11
          have hz11 := hz10.trans hx11
          clear e0 e1 b0 b1 l0 l9
          obtain ⟨e0, e1, b0, b1, l0, l9⟩ := HBX.out _ hz11
          have ht : Ext (w7.alloc (.cells #[.string ⟨#[]⟩, .string HS] 41)) w11 := ((hx8.trans hx9).trans hx10).trans hx11
          have t0 := ht.cell0 0
          have t1 := ht.cell0 1
          have t2 := ht.lt0
          simp at t0 t1
          have hrk := ownsRow_reads (ownsRow_ext hk1 hx11) (f := fun j => .int .i64 ((nth KL j : Nat) : Int)) (fun j hj => intCells_at (by omega))
          rw [Nat.mul_one] at hrk
          clear hk1 ho hx6 hx7 hx8 hx9 hx10 hx11 ht HR HH H1 H2 H3 H4 hyq hzq hy6 hz6 hy7 hz7 hy8 hz8 hy9 hz9 hy10 hz10
          go_wp2_with fail
          refine (H5.out _).mono ?_
          rintro e w12 ⟨rfl, hx12⟩
          have hy12 := hy11.trans hx12
          have hrk2 := hrk.mono hx12
          clear e0 e1 b0 b1 l0 l9 t0 t1 t2 hrk hx12 hz11 hy11
          go_wp2_with fail
          go_loopw [38] (fun i wr => ∃ d : Nat, i = .int .i64 ((d + 1 : Nat) : Int) ∧ d ≤ KL.length ∧ Ext w12 wr) (fun i _ => KL.length + 1 - (intOf i).toNat)
          case atStart => exact ⟨0, rfl, Nat.zero_le _, Ext.refl _⟩
          case round =>
            obtain ⟨d, rfl, hd, hx⟩ := hrel
            by_cases hlt : d + 1 < KL.length
            · obtain ⟨b, off, rfl, hbw, hcs⟩ := (hrk2.mono hx).cells_ (j := 0) (by omega)
              have c0 := hcs d (by omega)
              have c1 := hcs (d + 1) hlt
              have hs := sorted_nth HPW.out hlt
              have g1 : decide ((nth KL (d + 1) : Int) ≤ nth KL d) = false := decide_eq_false (by omega)
              clear hcs
              go_wp2_with fail
              (refine wp_region_ext (by kernel_rfl) (by kernel_rfl) ?_; intro ι hι g hg; have q_c0 := hg.cell c0; have q_c1 := hg.cell c1; clear c0 c1; (repeat (go_big_quiet_step (fail))); refine wpQuiet_nil ?_; rintro w5 ⟨i2, rfl⟩; have hq := hg.ext i2; generalize g i2 = w5 at hq ⊢; clear q_c0 q_c1 i2 hg g hι ι)
              go_wp2_with fail
              exact ⟨⟨d + 1, by go_num, by omega, hx.trans hq⟩, by simp [intOf]; omega⟩
            · go_wp2_with fail
              go_ret
              exact ⟨rfl, hy12.trans hx⟩
        · obtain ⟨a1, a2⟩ := HRE.out hre
          subst a1
          subst a2
          have g1 : (RE != 0) = true := by rw [bne_iff_ne]; exact hre
          clear HRM HRR HRK HRL HRH HRB HRE
          go_wp2_with fail
          refine (HR.out _ hyq).mono ?_
          rintro e w6 ⟨rfl, hx6⟩
          have hy6 : Ext w w6 := hyq.trans hx6
          have hz6 := hzq.trans hx6
          clear e0 e1 b0 b1 l0 l9
          obtain ⟨e0, e1, b0, b1, l0, l9⟩ := HBX.out _ hz6
          go_wp2_with fail
          refine (HH.out _ hy6).mono ?_
          rintro e w7 ⟨rfl, hx7⟩
          go_wp2_with fail
          go_ret
          exact ⟨rfl, (hy6.trans hx7).alloc _⟩
      · obtain ⟨a1, a2⟩ := HSV.out (by simpa using hse) hsb
        have h1 := HSM.out
        rw [a1, a2] at h1
        have H1 := Lib.hid h1
        clear h1 a1 a2
        go_upto_region 15 with (first | (go_at_call 22; refine (HS1.out _ hy4).mono ?_; rintro e w5 ⟨rfl, hx5⟩; rw [hsb]; have hy5 := hy4.trans hx5; have hz5 := hz4.trans hx5; obtain ⟨e0, e1, b0, b1, l0, l9⟩ := HBX.out _ hz5) | (go_at_call 20; refine (H1.out _ hy5).mono ?_; rintro e w6 ⟨rfl, hx6⟩))
        obtain ⟨wq, rfl⟩ : ∃ wq : World, wq = w6 := ⟨_, rfl⟩
        have hyq := hy5.trans hx6
        have hzq := hz5.trans hx6
        clear e0 e1 b0 b1 l0 l9 hx5 hx6 hy3 hz3 hy4 hz4 hy5 hz5 HS1 HSM HSV H1
        obtain ⟨e0, e1, b0, b1, l0, l9⟩ := HBX.out _ hzq
        by_cases hre : RE = 0
        · obtain ⟨a1, a2, a3, a4, a5, a6, a7, a8, a9, a10⟩ := HRB.out hre
          subst hre
          have h1 := HRM.out
          have h2 := HRR.out
          have h3 := HRK.out
          have h4 := HRL.out
          have h5 := HRH.out
          rw [a1, a2] at h1
          rw [a3, a4] at h2
          rw [a5, a6] at h3
          rw [a7, ← a8] at h4
          rw [a9, ← a8] at h5
          obtain ⟨KL, hKL⟩ : ∃ KL, skL A RS s = KL := ⟨_, rfl⟩
          rw [hKL] at h3 h4 h5 a10 hkl
          have H1 := Lib.hid h1
          have H2 := Lib.hid h2
          have H3 := Lib.hid h3
          have H4 := Lib.hid h4
          have H5 := Lib.hid h5
          have HPW := Lib.hid a10
          clear h1 h2 h3 h4 h5 a1 a2 a3 a4 a5 a6 a7 a8 a9 a10 hKL HRM HRR HRK HRL HRH HRB HRE
          go_wp2_with fail
          refine (HR.out _ hyq).mono ?_
          rintro e w6 ⟨rfl, hx6⟩
          have hy6 : Ext w w6 := hyq.trans hx6
          have hz6 := hzq.trans hx6
          clear e0 e1 b0 b1 l0 l9
          obtain ⟨e0, e1, b0, b1, l0, l9⟩ := HBX.out _ hz6
          go_wp2_with fail
          refine (HH.out _ hy6).mono ?_
          rintro e w7 ⟨rfl, hx7⟩
          have hy7 : Ext w w7 := hy6.trans hx7
          have hz7 := hz6.trans hx7
          clear e0 e1 b0 b1 l0 l9
          obtain ⟨e0, e1, b0, b1, l0, l9⟩ := HBX.out _ hz7
          go_wp2_with fail
          refine (H1.out _ (hy7.alloc _)).mono ?_
          rintro e w8 ⟨rfl, hx8⟩
          have hy8 : Ext w w8 := (hy7.alloc _).trans hx8
          have hz8 := (hz7.alloc _).trans hx8
          clear e0 e1 b0 b1 l0 l9
          obtain ⟨e0, e1, b0, b1, l0, l9⟩ := HBX.out _ hz8
          go_wp2_with fail
          refine (H2.out _ hy8).mono ?_
          rintro e w9 ⟨rfl, hx9⟩
          have hy9 : Ext w w9 := hy8.trans hx9
          have hz9 := hz8.trans hx9
          clear e0 e1 b0 b1 l0 l9
          obtain ⟨e0, e1, b0, b1, l0, l9⟩ := HBX.out _ hz9
          go_wp2_with fail
          refine (H3.out _ hy9).mono ?_
          rintro e w10 ⟨kp, kc, rfl, hk1, hx10⟩
          have hy10 : Ext w w10 := hy9.trans hx10
          have hz10 := hz9.trans hx10
          clear e0 e1 b0 b1 l0 l9
          obtain ⟨e0, e1, b0, b1, l0, l9⟩ := HBX.out _ hz10
          go_wp2_with fail
          refine (H4.out _ hy10).mono ?_
          rintro e w11 ⟨np, nc, rfl, ho, hx11⟩
          have hy11 : Ext w w11 := hy10.trans hx11
          have hz11 := hz10.trans hx11
          clear e0 e1 b0 b1 l0 l9
          obtain ⟨e0, e1, b0, b1, l0, l9⟩ := HBX.out _ hz11
          have ht : Ext (w7.alloc (.cells #[.string ⟨#[]⟩, .string HS] 41)) w11 := ((hx8.trans hx9).trans hx10).trans hx11
          have t0 := ht.cell0 0
          have t1 := ht.cell0 1
          have t2 := ht.lt0
          simp at t0 t1
          have hrk := ownsRow_reads (ownsRow_ext hk1 hx11) (f := fun j => .int .i64 ((nth KL j : Nat) : Int)) (fun j hj => intCells_at (by omega))
          rw [Nat.mul_one] at hrk
          clear hk1 ho hx6 hx7 hx8 hx9 hx10 hx11 ht HR HH H1 H2 H3 H4 hyq hzq hy6 hz6 hy7 hz7 hy8 hz8 hy9 hz9 hy10 hz10
          go_wp2_with fail
          refine (H5.out _).mono ?_
          rintro e w12 ⟨rfl, hx12⟩
          have hy12 := hy11.trans hx12
          have hrk2 := hrk.mono hx12
          clear e0 e1 b0 b1 l0 l9 t0 t1 t2 hrk hx12 hz11 hy11
          go_wp2_with fail
          go_loopw [38] (fun i wr => ∃ d : Nat, i = .int .i64 ((d + 1 : Nat) : Int) ∧ d ≤ KL.length ∧ Ext w12 wr) (fun i _ => KL.length + 1 - (intOf i).toNat)
          case atStart => exact ⟨0, rfl, Nat.zero_le _, Ext.refl _⟩
          case round =>
            obtain ⟨d, rfl, hd, hx⟩ := hrel
            by_cases hlt : d + 1 < KL.length
            · obtain ⟨b, off, rfl, hbw, hcs⟩ := (hrk2.mono hx).cells_ (j := 0) (by omega)
              have c0 := hcs d (by omega)
              have c1 := hcs (d + 1) hlt
              have hs := sorted_nth HPW.out hlt
              have g1 : decide ((nth KL (d + 1) : Int) ≤ nth KL d) = false := decide_eq_false (by omega)
              clear hcs
              go_wp2_with fail
              (refine wp_region_ext (by kernel_rfl) (by kernel_rfl) ?_; intro ι hι g hg; have q_c0 := hg.cell c0; have q_c1 := hg.cell c1; clear c0 c1; (repeat (go_big_quiet_step (fail))); refine wpQuiet_nil ?_; rintro w5 ⟨i2, rfl⟩; have hq := hg.ext i2; generalize g i2 = w5 at hq ⊢; clear q_c0 q_c1 i2 hg g hι ι)
              go_wp2_with fail
              exact ⟨⟨d + 1, by go_num, by omega, hx.trans hq⟩, by simp [intOf]; omega⟩
            · go_wp2_with fail
              go_ret
              exact ⟨rfl, hy12.trans hx⟩
        · obtain ⟨a1, a2⟩ := HRE.out hre
          subst a1
          subst a2
          have g1 : (RE != 0) = true := by rw [bne_iff_ne]; exact hre
          clear HRM HRR HRK HRL HRH HRB HRE
          go_wp2_with fail
          refine (HR.out _ hyq).mono ?_
          rintro e w6 ⟨rfl, hx6⟩
          have hy6 : Ext w w6 := hyq.trans hx6
          have hz6 := hzq.trans hx6
          clear e0 e1 b0 b1 l0 l9
          obtain ⟨e0, e1, b0, b1, l0, l9⟩ := HBX.out _ hz6
          go_wp2_with fail
          refine (HH.out _ hy6).mono ?_
          rintro e w7 ⟨rfl, hx7⟩
          go_wp2_with fail
          go_ret
          exact ⟨rfl, (hy6.trans hx7).alloc _⟩

end Go.Proofs.YtnngljflnfjppaaDoor
