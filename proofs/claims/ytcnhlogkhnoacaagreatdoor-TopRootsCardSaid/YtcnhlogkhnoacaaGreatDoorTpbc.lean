/- The law TopRoots, walked: a root merged into a shape is split out of it; a word's radicals in its shape are the word; what was doubled is single again. -/
import Derived.Test.YtcnhlogkhnoacaaGreatDoorTpbb
import Derived.Test.YtcnhlogkhnoacaaGreatDoorRadw
namespace Go.Proofs.YtcnhlogkhnoacaaGreatDoor
open Go.RowKit Go.Cg Go.Shelf Go.Maps

set_option maxRecDepth 100000 in
set_option maxHeartbeats 4000000 in
theorem topRoots_any (fp lp : Option Addr) (fc lc : Nat) (A : Alpha) (r : ByteArray) (hr : r.size ≤ 140737488351232) (nm fm : ByteArray) (hnm : nm.size ≤ 140737488351232) (hfm : fm.size ≤ 140737488351232) (s : ByteArray) (hs : s.size ≤ 140737488351232) (n : Int) (hn : -9223372036854775808 ≤ n ∧ n ≤ 9223372036854775807) (p : Nat) (hp : p < 4294967296) (w : World) (hA : AlphaAt w fp lp A) (hT : Tabs w) :
    Calls Tryz.prog 4 #[.agg #[.slice fp A.feats.length fc, .slice lp A.lets.length lc], .string r, .agg #[.string nm, .string fm], .string s, .int .i64 n, .int .u32 p] w fun e w' => e = .returned (.bool true) ∧ Ext w w' := by
  obtain ⟨z, hz⟩ : ∃ z, w.heap.size = z := ⟨_, rfl⟩
  obtain ⟨W1, hW1⟩ : ∃ W, w.alloc (.cells #[.slice fp A.feats.length fc, .slice lp A.lets.length lc] 25) = W := ⟨_, rfl⟩
  obtain ⟨W2, hW2⟩ : ∃ W, W1.alloc (.cells #[.string nm, .string fm] 41) = W := ⟨_, rfl⟩
  have hx1 : Ext w W1 := by rw [← hW1]; exact (Ext.refl _).alloc _
  have hx2 : Ext W1 W2 := by rw [← hW2]; exact (Ext.refl _).alloc _
  have hz1 : W1.heap.size = z + 1 := by rw [← hW1, size_alloc, hz]
  have HB := Lib.hid (fun W (hW : Ext W2 W) => (by
    have h := ext_cells hz (W := W) (by rw [hW1]; exact hx2.trans hW : Ext (w.alloc (.cells #[.slice fp A.feats.length fc, .slice lp A.lets.length lc] 25)) W)
    have h2 := ext_cells hz1 (W := W) (by rw [hW2]; exact hW : Ext (W1.alloc (.cells #[.string nm, .string fm] 41)) W)
    exact ⟨h.1 0, h.1 1, h2.1 0, h2.1 1, h.2, h2.2⟩ : W.cell? ⟨z, 0, none⟩ = some (.slice fp A.feats.length fc) ∧ W.cell? ⟨z, 1, none⟩ = some (.slice lp A.lets.length lc) ∧ W.cell? ⟨z + 1, 0, none⟩ = some (.string nm) ∧ W.cell? ⟨z + 1, 1, none⟩ = some (.string fm) ∧ z < W.heap.size ∧ z + 1 < W.heap.size))
  have hAW := fun W (hW : Ext W2 W) => hA.mono ((hx1.trans hx2).trans hW)
  have hTW := fun W (hW : Ext W2 W) => hT.ext ((hx1.trans hx2).trans hW)
  have HTU := Lib.hid (turns_any W2 (hTW _ (Ext.refl _)))
  have HCR := Lib.hid (fun W (hW : Ext W2 W) => Check03_any fp lp fc lc A r hr W (hAW W hW) (hTW W hW))
  have HCS := Lib.hid (fun W (hW : Ext W2 W) => Check03_any fp lp fc lc A s hs W (hAW W hW) (hTW W hW))
  have HCF := Lib.hid (fun W (hW : Ext W2 W) => Check13_any fp lp fc lc A nm fm hnm hfm W (hAW W hW))
  have HX := Lib.hid (fun W (hW : Ext W2 W) => (hx1.trans hx2).trans hW)
  have HW1 := Lib.hid hW1
  have HW2 := Lib.hid hW2
  clear hW1 hW2 hz1 hx1 hx2 hA hT
  by_cases h1 : (spell A r).2 = 0
  · by_cases h2 : (spell A s).2 = 0
    · by_cases h3 : shapeE A nm fm = 0
      · have hok := (spell_ok h1).1
        have hsh : nmB nm = true ∧ formB A fm = true := by
          by_cases h : nmB nm = true ∧ formB A fm = true
          · exact h
          · rw [shapeE_no hok h] at h3; cases h3
        have hrb : ∀ l : List Int, l.length ≤ 128 → (runesBytes l).size ≤ 140737488351232 := fun l hl => by
          have := rb_size_le l; omega
        have hrs : (radS A s p).size ≤ 140737488351232 := by
          rw [radS_eq]; split
          · exact hrb _ (Nat.le_trans (List.length_filter_le ..) (Nat.le_trans (spell_len A s) (by decide)))
          · decide
        have hss : (shapeS A s p).size ≤ 140737488351232 := by
          rw [shapeS_eq]; split
          · exact hrb _ (by rw [List.length_map]; exact Nat.le_trans (spell_len A s) (by decide))
          · decide
        have hRB : radE A s p = 0 → mergeE A (radS A s p) ⟨#[]⟩ (shapeS A s p) = 0 ∧ mergeS A (radS A s p) ⟨#[]⟩ (shapeS A s p) = s := fun h => ⟨(rad_back h).1, (rad_back h).2.1⟩
        have HRA0 := fun W (hW : Ext W2 W) => radicals_any fp lp fc lc A s p hs hp W (hAW W hW) (hTW W hW)
        have HSH0 := fun W (hW : Ext W2 W) => shape_any fp lp fc lc A s p hs hp W (hAW W hW) (hTW W hW)
        have HMG0 := fun W (hW : Ext W2 W) => merge_any fp lp fc lc A (radS A s p) ⟨#[]⟩ (shapeS A s p) hrs (by decide) hss W (hAW W hW) (hTW W hW)
        have HSG := Lib.hid (fun W (hW : Ext W2 W) => singles_any fp lp fc lc A s h2 hs n hn W (hAW W hW) (hTW W hW))
        have HHO := Lib.hid (fun W (_ : Ext W2 W) => holes_any nm fm W)
        have HLR := Lib.hid (fun W (_ : Ext W2 W) => (by rw [← ldN_word h1]; exact tlong_any r hr W : Calls Tryz.prog 15 #[.string r] W fun e w' => e = .returned (.int .i64 (((spell A r).1.length : Nat) : Int)) ∧ Ext W w'))
        have hME := mergeE_eq A r nm fm
        rw [if_neg (fun h => h h1)] at hME
        have HME0 := fun W (hW : Ext W2 W) => merge_any fp lp fc lc A r nm fm hr hnm hfm W (hAW W hW) (hTW W hW)
        have hms : (mergeS A r nm fm).size ≤ 140737488351232 := by
          rw [mergeS_eq]; split
          · exact hrb _ (by rw [fillTo_len]; exact Nat.le_trans (form_ok hsh.2).2.2.1 (by decide))
          · decide
        have HSP0 := fun W (hW : Ext W2 W) => split_word_any fp lp fc lc A (mergeS A r nm fm) nm fm hms hnm hfm W (hAW W hW) (hTW W hW)
        obtain ⟨RS, hRS⟩ : ∃ v, radS A s p = v := ⟨_, rfl⟩
        obtain ⟨SH, hSH⟩ : ∃ v, shapeS A s p = v := ⟨_, rfl⟩
        obtain ⟨RE, hRE⟩ : ∃ v, radE A s p = v := ⟨_, rfl⟩
        rw [hRS, hSH] at HMG0
        rw [hRS, hSH, hRE] at hRB
        simp only [hRS, hRE] at HRA0
        simp only [hSH, hRE] at HSH0
        have HRA := Lib.hid HRA0
        have HSH := Lib.hid HSH0
        have HMG := Lib.hid HMG0
        have HRB := Lib.hid hRB
        rw [h1] at HCR
        rw [h2] at HCS
        rw [h3] at HCF
        clear HRA0 HSH0 HMG0 hRB hrs hss hRS hSH hRE
        by_cases hE : txtHoles fm = (spell A r).1.length
        · rw [if_pos ⟨hsh, hE⟩] at hME
          obtain ⟨e1, e2, e3, _, _⟩ := merge_split hME
          have hsp : (spell A (mergeS A r nm fm)).2 = 0 := by
            have h := e1
            rw [splitE_eq] at h
            by_cases h5 : (spell A (mergeS A r nm fm)).2 = 0
            · exact h5
            · rw [if_pos h5] at h; exact absurd h h5
          have hK := (spell_ok hsp).2.2.2
          have hlm := ldN_word hsp
          rw [hME] at HME0
          rw [e1, e2, e3] at HSP0
          obtain ⟨MS, hMS⟩ : ∃ v, mergeS A r nm fm = v := ⟨_, rfl⟩
          rw [hMS] at HME0 HSP0 hK hlm hms
          obtain ⟨K, hKe⟩ : ∃ v, (spell A MS).1.length = v := ⟨_, rfl⟩
          rw [hKe] at hK hlm
          have HLM := Lib.hid (fun W (_ : Ext W2 W) => (by rw [← hlm]; exact tlong_any MS hms W : Calls Tryz.prog 15 #[.string MS] W fun e w' => e = .returned (.int .i64 ((K : Nat) : Int)) ∧ Ext W w'))
          have HM0 := Lib.hid HME0
          have HSP := Lib.hid HSP0
          rw [hE] at HHO
          obtain ⟨L, hL⟩ : ∃ v, (spell A r).1.length = v := ⟨_, rfl⟩
          rw [hL] at HHO HLR
          clear HME0 HSP0 e1 e2 e3 hsp hME hMS hms hlm hKe hE hL hsh hrb h1 h2 h3 hok hAW hTW
          go_enter Tryz.func4, Tryz.ntmps4
          go_wp2_with fail
          rw [HW1.out, HW2.out]
          refine HTU.out.mono ?_
          rintro e w1 ⟨rfl, hxq⟩
          have HK1 := Lib.hid hxq
          clear hxq
          obtain ⟨b0, b1, q0, q1, bl, ql⟩ := HB.out _ HK1.out
          go_wp2_with fail
          refine (HCR.out _ HK1.out).mono ?_
          rintro e w2 ⟨rfl, hxq⟩
          have HK2 := Lib.hid (HK1.out.trans hxq)
          clear hxq b0 b1 q0 q1 bl ql
          obtain ⟨b0, b1, q0, q1, bl, ql⟩ := HB.out _ HK2.out
          go_wp2_with fail
          refine (HCS.out _ HK2.out).mono ?_
          rintro e w3 ⟨rfl, hxq⟩
          have HK3 := Lib.hid (HK2.out.trans hxq)
          clear hxq b0 b1 q0 q1 bl ql
          obtain ⟨b0, b1, q0, q1, bl, ql⟩ := HB.out _ HK3.out
          go_wp2_with fail
          refine (HCF.out _ HK3.out).mono ?_
          rintro e w4 ⟨rfl, hxq⟩
          have HK4 := Lib.hid (HK3.out.trans hxq)
          clear hxq b0 b1 q0 q1 bl ql
          obtain ⟨b0, b1, q0, q1, bl, ql⟩ := HB.out _ HK4.out
          go_wp2_with fail
          refine (HM0.out _ HK4.out).mono ?_
          rintro e w5 ⟨rfl, hxq⟩
          have HK5 := Lib.hid (HK4.out.trans hxq)
          clear hxq b0 b1 q0 q1 bl ql
          obtain ⟨b0, b1, q0, q1, bl, ql⟩ := HB.out _ HK5.out
          go_wp2_with fail
          refine (HHO.out _ HK5.out).mono ?_
          rintro e w6 ⟨rfl, hxq⟩
          have HK6 := Lib.hid (HK5.out.trans hxq)
          clear hxq b0 b1 q0 q1 bl ql
          obtain ⟨b0, b1, q0, q1, bl, ql⟩ := HB.out _ HK6.out
          go_wp2_with fail
          refine (HLR.out _ HK6.out).mono ?_
          rintro e w7 ⟨rfl, hxq⟩
          have HK7 := Lib.hid (HK6.out.trans hxq)
          clear hxq b0 b1 q0 q1 bl ql
          obtain ⟨b0, b1, q0, q1, bl, ql⟩ := HB.out _ HK7.out
          go_wp2_with fail
          refine (HLM.out _ HK7.out).mono ?_
          rintro e w8 ⟨rfl, hxq⟩
          have HK8 := Lib.hid (HK7.out.trans hxq)
          clear hxq b0 b1 q0 q1 bl ql
          obtain ⟨b0, b1, q0, q1, bl, ql⟩ := HB.out _ HK8.out
          go_wp2_with fail
          refine (HSP.out _ HK8.out).mono ?_
          rintro e w9 ⟨rfl, hxq⟩
          have HZ := Lib.hid (HK8.out.trans hxq)
          clear hxq b0 b1 q0 q1 bl ql
          obtain ⟨b0, b1, q0, q1, bl, ql⟩ := HB.out _ HZ.out
          go_wp2_with fail
          refine (HRA.out _ HZ.out).mono ?_
          rintro e wa ⟨rfl, hxq⟩
          have HZ1 := Lib.hid (HZ.out.trans hxq)
          clear hxq b0 b1 q0 q1 bl ql
          obtain ⟨b0, b1, q0, q1, bl, ql⟩ := HB.out _ HZ1.out
          go_wp2_with fail
          refine (HSH.out _ HZ1.out).mono ?_
          rintro e wb ⟨rfl, hxq⟩
          have HZ2 := Lib.hid (HZ1.out.trans hxq)
          clear hxq b0 b1 q0 q1 bl ql
          obtain ⟨b0, b1, q0, q1, bl, ql⟩ := HB.out _ HZ2.out
          have HZ3 := Lib.hid (HZ2.out.alloc (.cells #[.string ⟨#[]⟩, .string SH] 41))
          have HM2 := Lib.hid (HMG.out _ HZ3.out)
          by_cases hre : RE = 0
          · have he2 := HRB.out hre
            have HM3 := Lib.hid (by have := HM2.out; rw [he2.1, he2.2] at this; exact this : Calls Tryz.prog 13 #[.agg #[.slice fp A.feats.length fc, .slice lp A.lets.length lc], .string RS, .agg #[.string ⟨#[]⟩, .string SH]] (wb.alloc (.cells #[.string ⟨#[]⟩, .string SH] 41)) fun e w' => e = .returned (.tuple #[.string s, .int .i64 0]) ∧ Ext (wb.alloc (.cells #[.string ⟨#[]⟩, .string SH] 41)) w')
            clear he2 HM2
            subst hre
            go_wp2_with fail
            refine HM3.out.mono ?_
            rintro e wc ⟨rfl, hxq⟩
            have HZ4 := Lib.hid (HZ3.out.trans hxq)
            clear hxq b0 b1 q0 q1 bl ql
            obtain ⟨b0, b1, q0, q1, bl, ql⟩ := HB.out _ HZ4.out
            go_wp2_with fail
            refine (HSG.out _ HZ4.out).mono ?_
            rintro e wd ⟨rfl, hxq⟩
            have h9 := HX.out _ (HZ4.out.trans hxq)
            clear hxq
            go_wp2_with fail
            go_ret
            exact ⟨rfl, h9⟩
          · have hre2 : (RE == 0) = false := by simpa using hre
            clear HM2
            obtain ⟨b0, b1, q0, q1, bl, ql⟩ := HB.out _ HZ3.out
            go_wp2_with fail
            refine (HSG.out _ HZ3.out).mono ?_
            rintro e wd ⟨rfl, hxq⟩
            have h9 := HX.out _ (HZ3.out.trans hxq)
            clear hxq
            go_wp2_with fail
            go_ret
            exact ⟨rfl, h9⟩
        · rw [if_neg (fun h => hE h.2)] at hME
          rw [hME] at HME0
          obtain ⟨MS, hMS⟩ : ∃ v, mergeS A r nm fm = v := ⟨_, rfl⟩
          rw [hMS] at HME0
          have HM0 := Lib.hid HME0
          obtain ⟨L, hL⟩ : ∃ v, (spell A r).1.length = v := ⟨_, rfl⟩
          obtain ⟨H, hH⟩ : ∃ v, txtHoles fm = v := ⟨_, rfl⟩
          rw [hL] at HLR hE
          rw [hH] at HHO hE
          have hE2 : ((H : Int) == (L : Int)) = false := by
            rw [beq_eq_false_iff_ne]; omega
          clear HME0 HSP0 hME hMS hms hL hH hsh hrb h1 h2 h3 hok hAW hTW hE
          go_enter Tryz.func4, Tryz.ntmps4
          go_wp2_with fail
          rw [HW1.out, HW2.out]
          refine HTU.out.mono ?_
          rintro e w1 ⟨rfl, hxq⟩
          have HK1 := Lib.hid hxq
          clear hxq
          obtain ⟨b0, b1, q0, q1, bl, ql⟩ := HB.out _ HK1.out
          go_wp2_with fail
          refine (HCR.out _ HK1.out).mono ?_
          rintro e w2 ⟨rfl, hxq⟩
          have HK2 := Lib.hid (HK1.out.trans hxq)
          clear hxq b0 b1 q0 q1 bl ql
          obtain ⟨b0, b1, q0, q1, bl, ql⟩ := HB.out _ HK2.out
          go_wp2_with fail
          refine (HCS.out _ HK2.out).mono ?_
          rintro e w3 ⟨rfl, hxq⟩
          have HK3 := Lib.hid (HK2.out.trans hxq)
          clear hxq b0 b1 q0 q1 bl ql
          obtain ⟨b0, b1, q0, q1, bl, ql⟩ := HB.out _ HK3.out
          go_wp2_with fail
          refine (HCF.out _ HK3.out).mono ?_
          rintro e w4 ⟨rfl, hxq⟩
          have HK4 := Lib.hid (HK3.out.trans hxq)
          clear hxq b0 b1 q0 q1 bl ql
          obtain ⟨b0, b1, q0, q1, bl, ql⟩ := HB.out _ HK4.out
          go_wp2_with fail
          refine (HM0.out _ HK4.out).mono ?_
          rintro e w5 ⟨rfl, hxq⟩
          have HK5 := Lib.hid (HK4.out.trans hxq)
          clear hxq b0 b1 q0 q1 bl ql
          obtain ⟨b0, b1, q0, q1, bl, ql⟩ := HB.out _ HK5.out
          go_wp2_with fail
          refine (HHO.out _ HK5.out).mono ?_
          rintro e w6 ⟨rfl, hxq⟩
          have HK6 := Lib.hid (HK5.out.trans hxq)
          clear hxq b0 b1 q0 q1 bl ql
          obtain ⟨b0, b1, q0, q1, bl, ql⟩ := HB.out _ HK6.out
          go_wp2_with fail
          refine (HLR.out _ HK6.out).mono ?_
          rintro e w7 ⟨rfl, hxq⟩
          have HZ := Lib.hid (HK6.out.trans hxq)
          clear hxq b0 b1 q0 q1 bl ql
          obtain ⟨b0, b1, q0, q1, bl, ql⟩ := HB.out _ HZ.out
          go_wp2_with fail
          refine (HRA.out _ HZ.out).mono ?_
          rintro e wa ⟨rfl, hxq⟩
          have HZ1 := Lib.hid (HZ.out.trans hxq)
          clear hxq b0 b1 q0 q1 bl ql
          obtain ⟨b0, b1, q0, q1, bl, ql⟩ := HB.out _ HZ1.out
          go_wp2_with fail
          refine (HSH.out _ HZ1.out).mono ?_
          rintro e wb ⟨rfl, hxq⟩
          have HZ2 := Lib.hid (HZ1.out.trans hxq)
          clear hxq b0 b1 q0 q1 bl ql
          obtain ⟨b0, b1, q0, q1, bl, ql⟩ := HB.out _ HZ2.out
          have HZ3 := Lib.hid (HZ2.out.alloc (.cells #[.string ⟨#[]⟩, .string SH] 41))
          have HM2 := Lib.hid (HMG.out _ HZ3.out)
          by_cases hre : RE = 0
          · have he2 := HRB.out hre
            have HM3 := Lib.hid (by have := HM2.out; rw [he2.1, he2.2] at this; exact this : Calls Tryz.prog 13 #[.agg #[.slice fp A.feats.length fc, .slice lp A.lets.length lc], .string RS, .agg #[.string ⟨#[]⟩, .string SH]] (wb.alloc (.cells #[.string ⟨#[]⟩, .string SH] 41)) fun e w' => e = .returned (.tuple #[.string s, .int .i64 0]) ∧ Ext (wb.alloc (.cells #[.string ⟨#[]⟩, .string SH] 41)) w')
            clear he2 HM2
            subst hre
            go_wp2_with fail
            refine HM3.out.mono ?_
            rintro e wc ⟨rfl, hxq⟩
            have HZ4 := Lib.hid (HZ3.out.trans hxq)
            clear hxq b0 b1 q0 q1 bl ql
            obtain ⟨b0, b1, q0, q1, bl, ql⟩ := HB.out _ HZ4.out
            go_wp2_with fail
            refine (HSG.out _ HZ4.out).mono ?_
            rintro e wd ⟨rfl, hxq⟩
            have h9 := HX.out _ (HZ4.out.trans hxq)
            clear hxq
            go_wp2_with fail
            go_ret
            exact ⟨rfl, h9⟩
          · have hre2 : (RE == 0) = false := by simpa using hre
            clear HM2
            obtain ⟨b0, b1, q0, q1, bl, ql⟩ := HB.out _ HZ3.out
            go_wp2_with fail
            refine (HSG.out _ HZ3.out).mono ?_
            rintro e wd ⟨rfl, hxq⟩
            have h9 := HX.out _ (HZ3.out.trans hxq)
            clear hxq
            go_wp2_with fail
            go_ret
            exact ⟨rfl, h9⟩
      · have h3' : (shapeE A nm fm != 0) = true := by simpa using h3
        rw [h1] at HCR
        rw [h2] at HCS
        clear h1 h2 h3 hAW hTW
        go_enter Tryz.func4, Tryz.ntmps4
        go_wp2_with fail
        rw [HW1.out, HW2.out]
        refine HTU.out.mono ?_
        rintro e w1 ⟨rfl, hxq⟩
        have HK1 := Lib.hid hxq
        clear hxq
        obtain ⟨b0, b1, q0, q1, bl, ql⟩ := HB.out _ HK1.out
        go_wp2_with fail
        refine (HCR.out _ HK1.out).mono ?_
        rintro e w2 ⟨rfl, hxq⟩
        have HK2 := Lib.hid (HK1.out.trans hxq)
        clear hxq b0 b1 q0 q1 bl ql
        obtain ⟨b0, b1, q0, q1, bl, ql⟩ := HB.out _ HK2.out
        go_wp2_with fail
        refine (HCS.out _ HK2.out).mono ?_
        rintro e w3 ⟨rfl, hxq⟩
        have HK3 := Lib.hid (HK2.out.trans hxq)
        clear hxq b0 b1 q0 q1 bl ql
        obtain ⟨b0, b1, q0, q1, bl, ql⟩ := HB.out _ HK3.out
        go_wp2_with fail
        refine (HCF.out _ HK3.out).mono ?_
        rintro e w4 ⟨rfl, hxq⟩
        have HK4 := Lib.hid (HK3.out.trans hxq)
        clear hxq b0 b1 q0 q1 bl ql
        obtain ⟨b0, b1, q0, q1, bl, ql⟩ := HB.out _ HK4.out
        go_wp2_with fail
        have h9 := HX.out _ HK4.out
        go_ret
        exact ⟨rfl, h9⟩
    · have h2' : ((spell A s).2 != 0) = true := by simpa using h2
      rw [h1] at HCR
      clear h1 h2 hAW hTW
      go_enter Tryz.func4, Tryz.ntmps4
      go_wp2_with fail
      rw [HW1.out, HW2.out]
      refine HTU.out.mono ?_
      rintro e w1 ⟨rfl, hxq⟩
      have HK1 := Lib.hid hxq
      clear hxq
      obtain ⟨b0, b1, q0, q1, bl, ql⟩ := HB.out _ HK1.out
      go_wp2_with fail
      refine (HCR.out _ HK1.out).mono ?_
      rintro e w2 ⟨rfl, hxq⟩
      have HK2 := Lib.hid (HK1.out.trans hxq)
      clear hxq b0 b1 q0 q1 bl ql
      obtain ⟨b0, b1, q0, q1, bl, ql⟩ := HB.out _ HK2.out
      go_wp2_with fail
      refine (HCS.out _ HK2.out).mono ?_
      rintro e w3 ⟨rfl, hxq⟩
      have HK3 := Lib.hid (HK2.out.trans hxq)
      clear hxq b0 b1 q0 q1 bl ql
      obtain ⟨b0, b1, q0, q1, bl, ql⟩ := HB.out _ HK3.out
      go_wp2_with fail
      have h9 := HX.out _ HK3.out
      go_ret
      exact ⟨rfl, h9⟩
  · have h1' : ((spell A r).2 != 0) = true := by simpa using h1
    clear h1 hAW hTW
    go_enter Tryz.func4, Tryz.ntmps4
    go_wp2_with fail
    rw [HW1.out, HW2.out]
    refine HTU.out.mono ?_
    rintro e w1 ⟨rfl, hxq⟩
    have HK1 := Lib.hid hxq
    clear hxq
    obtain ⟨b0, b1, q0, q1, bl, ql⟩ := HB.out _ HK1.out
    go_wp2_with fail
    refine (HCR.out _ HK1.out).mono ?_
    rintro e w2 ⟨rfl, hxq⟩
    have HK2 := Lib.hid (HK1.out.trans hxq)
    clear hxq b0 b1 q0 q1 bl ql
    obtain ⟨b0, b1, q0, q1, bl, ql⟩ := HB.out _ HK2.out
    go_wp2_with fail
    have h9 := HX.out _ HK2.out
    go_ret
    exact ⟨rfl, h9⟩
end Go.Proofs.YtcnhlogkhnoacaaGreatDoor
