/- The law DoubleBack, walked: of any alphabet, word and number it returns true; memory only gains blocks. Conditions: the library's two tables lie in memory. -/
import Derived.Test.YtcjdpicepjoeoaaDoorDoube
import Derived.Test.YtcjdpicepjoeoaaDoorDoubi
namespace Go.Proofs.YtcjdpicepjoeoaaDoor
open Go.RowKit Go.Cg Go.Shelf Go.Maps

theorem rb_small {l : List Int} (h : l.length ≤ 128) : (runesBytes l).size ≤ 140737488351232 := by
  have := rb_size_le l; omega
theorem empty_small : (⟨#[]⟩ : ByteArray).size ≤ 140737488351232 := by decide
theorem frontS_small (A : Alpha) (s : ByteArray) (n : Int) : (frontS A s n).size ≤ 140737488351232 := by
  have h := spell_len A s
  rw [frontS_eq]
  split
  · exact rb_small (by rw [List.length_append, List.length_take]; omega)
  · exact empty_small
theorem wholeS_small (A : Alpha) (s : ByteArray) : (wholeS A s).size ≤ 140737488351232 := by
  have h := spell_len A s
  rw [wholeS_eq]
  split
  · exact rb_small (by rw [List.length_append]; omega)
  · exact empty_small
theorem singleS_small (A : Alpha) (s : ByteArray) (n : Int) : (singleS A s n).size ≤ 140737488351232 := by
  have h := spell_len A s
  rw [singleS_eq]
  split
  · exact rb_small (by rw [List.length_drop]; omega)
  · exact empty_small

set_option maxRecDepth 100000 in
set_option maxHeartbeats 4000000 in
theorem doubleBack_any (fp lp : Option Addr) (fc lc : Nat) (A : Alpha) (s : ByteArray) (hs : s.size ≤ 140737488351232) (n : Int) (hn : -9223372036854775808 ≤ n ∧ n ≤ 9223372036854775807) (w : World) (hA : AlphaAt w fp lp A) (hT : Tabs w) :
    Calls Tryd.prog 4 #[.agg #[.slice fp A.feats.length fc, .slice lp A.lets.length lc], .string s, .int .i64 n] w fun e w' => e = .returned (.bool true) ∧ Ext w w' := by
  have hx0 : Ext w (w.alloc (.cells #[.slice fp A.feats.length fc, .slice lp A.lets.length lc] 25)) := (Ext.refl _).alloc _
  have hL := fun W hW => letters_any fp lp fc lc A s hs W (hA.mono hW) (hT.ext hW)
  have hF := fun s' n' hs' hn' W hW => front_any fp lp fc lc A s' n' hs' hn' W (hA.mono hW) (hT.ext hW)
  have hS := fun s' n' hs' hn' W hW => single_any fp lp fc lc A s' n' hs' hn' W (hA.mono hW) (hT.ext hW)
  have hW := fun s' hs' W hW => whole_any fp lp fc lc A s' hs' W (hA.mono hW) (hT.ext hW)
  have hR := fun s' hs' W hW => runs_any fp lp fc lc A s' hs' W (hA.mono hW) (hT.ext hW)
  have HL := Lib.hid hL
  have HF := Lib.hid hF
  have HS := Lib.hid hS
  have HW := Lib.hid hW
  have HR := Lib.hid hR
  clear hL hF hS hW hR
  by_cases h0 : (spell A s).2 = 0
  · obtain ⟨hok, hsl, hin, h64⟩ := spell_ok h0
    have hbl := fun (n' : Int) (h : frontE A s n' = 0) => front_ok (s := s) h0 h
    have hLs := fun W hW => HL.out W hW
    rw [h0] at hLs
    have HLs := Lib.hid hLs
    clear hLs HL
    have hWs := fun W hW => HW.out s hs W hW
    rw [h0] at hWs
    have hWe := wholeS_eq A s
    rw [if_pos h0] at hWe
    have hse : ∀ k, singleS A s k = ⟨#[]⟩ ∨ singleB A s k = true := fun k => by
      cases h : singleB A s k
      · exact .inl (singleS_none h)
      · exact .inr rfl
    have hFE := fun (h : frontE A s n = 0) => front_ok h0 h
    have hb3 := fun h => back3 (A := A) (s := s) h0 h
    have hb4 := fun (m : Nat) h1 h2 h => back4 (A := A) (s := s) (m := m) h1 h2 h0 h
    have hbe : singleE A s n ≠ 0 → singleB A s n = false := singleB_err
    have hbr := fun h => single_range (n := n) h0 h
    obtain ⟨l, hl⟩ : ∃ l, (spell A s).1 = l := ⟨_, rfl⟩
    rw [hl] at hsl hin h64 HLs hWe hFE
    rw [hWe] at hWs
    have HWs := Lib.hid hWs
    clear hWs hWe hl hbl
    have HFE := Lib.hid hFE
    have HB3 := Lib.hid hb3
    have HB4 := Lib.hid hb4
    have HSE := Lib.hid hse
    have HBE := Lib.hid hbe
    have HBR := Lib.hid hbr
    have HSL := Lib.hid hsl
    clear hFE hb3 hb4 hse hbe hbr hsl
    obtain ⟨F, hF⟩ : ∃ F, frontE A s n = F := ⟨_, rfl⟩
    obtain ⟨FS, hFS⟩ : ∃ FS, frontS A s n = FS := ⟨_, rfl⟩
    have hFs := fun W hW => HF.out s n hs hn W hW
    have hFsz := frontS_small A s n
    rw [hF, hFS] at hFs HFE
    rw [hFS] at hFsz
    have HFs := Lib.hid hFs
    clear hFs hF hFS
    have hSs := fun W hW => HS.out s n hs hn W hW
    have HSs := Lib.hid hSs
    clear hSs
    have HWsz := rb_small (l := l ++ l) (by rw [List.length_append]; omega)
    go_enter Tryd.func4, Tryd.ntmps4
    go_wp2_with (go_at_call 7; refine (awake_any _ (hT.ext hx0)).mono ?_; rintro e w1 ⟨rfl, hx1⟩; have d0 := hx1.cell0 0; have d1 := hx1.cell0 1; simp at d0 d1)
    refine (HLs.out _ hx1.box).mono ?_
    rintro e w2 ⟨rp, rc, rfl, ho, hx2⟩
    have hy2 := hx1.trans hx2
    clear d0 d1
    have d0 := hy2.cell0 0; have d1 := hy2.cell0 1; simp at d0 d1
    clear hx2
    go_wp2_with fail
    refine (HFs.out _ hy2.box).mono ?_
    rintro e w3 ⟨rfl, hx3⟩
    have hy3 := hy2.trans hx3
    clear d0 d1
    have d0 := hy3.cell0 0; have d1 := hy3.cell0 1; simp at d0 d1
    clear hx3 hy2
    by_cases hP1 : (F = 0 ∧ 0 < n) ∧ (l.length : Int) + n ≤ 64
    · obtain ⟨m, hm⟩ : ∃ m : Nat, n = m := ⟨n.toNat, by omega⟩
      obtain ⟨p1, p2, p3, p4⟩ := HFE.out hP1.1.1
      rw [show n.toNat = m by omega] at p4
      obtain ⟨q1, q2, q3⟩ := back1 hok hin (m := m) (by omega) (by omega) (by omega)
      rw [← p4, ← hm] at q1 q2 q3
      have hc := HS.out FS n hFsz hn _ hy3.box
      rw [q1, q2, q3, HSL.out] at hc
      have HC := Lib.hid hc
      clear hc q1 q2 q3 p4 hm
      go_wp2_with fail
      refine HC.out.mono ?_
      rintro e w4 ⟨rfl, hx4⟩
      have hy4 := hy3.trans hx4
      clear d0 d1
      have d0 := hy4.cell0 0; have d1 := hy4.cell0 1; simp at d0 d1
      go_wp2_with fail
      obtain ⟨wc, hyc, hwc⟩ : ∃ wc, Ext (w.alloc (.cells #[.slice fp A.feats.length fc, .slice lp A.lets.length lc] 25)) wc ∧ wc = w4 := ⟨_, hy4, rfl⟩
      rw [← hwc]
      clear hwc d0 d1
      have hsl := HSL.out
      have d0 := hyc.cell0 0; have d1 := hyc.cell0 1; simp at d0 d1
      refine (HWs.out _ hyc.box).mono ?_
      rintro e w5 ⟨rfl, hx5⟩
      have hy5 := hyc.trans hx5
      clear d0 d1
      have d0 := hy5.cell0 0; have d1 := hy5.cell0 1; simp at d0 d1
      clear hx5 hyc
      by_cases hP2 : 0 < l.length ∧ 2 * l.length ≤ 64
      · obtain ⟨q1, q2, q3⟩ := back2 hok hin hP2.1 hP2.2
        have hsw := spell_rb hok (InA_app hin hin) (l := l ++ l) (by rw [List.length_append]; omega)
        obtain ⟨zr, hzr⟩ := runs_twice l hP2.1
        have hc := HS.out (runesBytes (l ++ l)) 0 HWsz (by omega) _ hy5.box
        rw [q1, q2, q3, hsl] at hc
        have HC := Lib.hid hc
        clear hc q1 q2 q3
        go_wp2_with fail
        all_goals
          refine HC.out.mono ?_
          rintro e w6 ⟨rfl, hx6⟩
          have hy6 := hy5.trans hx6
          clear d0 d1
          have d0 := hy6.cell0 0; have d1 := hy6.cell0 1; simp at d0 d1
          have hr := HR.out (runesBytes (l ++ l)) HWsz _ hy6.box
          rw [hsw] at hr
          simp only at hr
          rw [hzr] at hr
          have HRR := Lib.hid hr
          clear hr hsw hzr
          go_wp2_with fail
          refine HRR.out.mono ?_
          rintro e w7 ⟨zp, zc, rfl, hown, hx7⟩
          have hy7 := hy6.trans hx7
          clear d0 d1
          have d0 := hy7.cell0 0; have d1 := hy7.cell0 1; simp at d0 d1
          obtain ⟨zb, zo, rfl, hzb, c0, c1⟩ := (SpanAt.of_own hown).cells (i := 0) (by simp)
          simp at c0 c1
          go_wp2_with fail
          all_goals
            refine (HSs.out _ hy7.box).mono ?_
            rintro e w8 ⟨rfl, hx8⟩
            have hy8 := hy7.trans hx8
            clear d0 d1
            have d0 := hy8.cell0 0; have d1 := hy8.cell0 1; simp at d0 d1
            have hssz := singleS_small A s n
            by_cases hP3 : singleE A s n = 0 ∧ singleB A s n = true
            · obtain ⟨b1, b2⟩ := HBR.out hP3.1
              by_cases hn0 : n = 0
              · subst hn0
                have hb9 := hP3.2
                obtain ⟨t1, t2⟩ := HB3.out hb9
                have hc := HW.out (singleS A s 0) hssz _ hy8.box
                rw [t1, t2] at hc
                have HC9 := Lib.hid hc
                clear hc t1 t2 hb9
                go_wp2_with fail
                all_goals
                  refine HC9.out.mono ?_
                  rintro e w9 ⟨rfl, hx9⟩
                  go_wp2_with fail
                  go_ret
                  exact ⟨rfl, hy8.box.trans hx9⟩
              · obtain ⟨m9, rfl⟩ : ∃ m9 : Nat, n = m9 := ⟨n.toNat, by omega⟩
                have hb9 := hP3.2
                obtain ⟨t1, t2⟩ := HB4.out m9 (by omega) (by omega) hb9
                have hc := HF.out (singleS A s m9) m9 hssz hn _ hy8.box
                rw [t1, t2] at hc
                have HC9 := Lib.hid hc
                clear hc t1 t2 hb9
                go_wp2_with fail
                all_goals
                  refine HC9.out.mono ?_
                  rintro e w9 ⟨rfl, hx9⟩
                  go_wp2_with fail
                  go_ret
                  exact ⟨rfl, hy8.box.trans hx9⟩
            · have hb9 : singleB A s n = false := by
                by_cases h9 : singleE A s n = 0
                · cases hq : singleB A s n
                  · rfl
                  · exact absurd ⟨h9, hq⟩ hP3
                · exact HBE.out h9
              have hS9 := (HSE.out n).resolve_right (by rw [hb9]; decide)
              go_wp2_with fail
              all_goals go_ret
              all_goals exact ⟨rfl, hy8.box⟩
      · go_wp2_with fail
        all_goals
          refine (HSs.out _ hy5.box).mono ?_
          rintro e w8 ⟨rfl, hx8⟩
          have hy8 := hy5.trans hx8
          clear d0 d1
          have d0 := hy8.cell0 0; have d1 := hy8.cell0 1; simp at d0 d1
          have hssz := singleS_small A s n
          by_cases hP3 : singleE A s n = 0 ∧ singleB A s n = true
          · obtain ⟨b1, b2⟩ := HBR.out hP3.1
            by_cases hn0 : n = 0
            · subst hn0
              have hb9 := hP3.2
              obtain ⟨t1, t2⟩ := HB3.out hb9
              have hc := HW.out (singleS A s 0) hssz _ hy8.box
              rw [t1, t2] at hc
              have HC9 := Lib.hid hc
              clear hc t1 t2 hb9
              go_wp2_with fail
              all_goals
                refine HC9.out.mono ?_
                rintro e w9 ⟨rfl, hx9⟩
                go_wp2_with fail
                go_ret
                exact ⟨rfl, hy8.box.trans hx9⟩
            · obtain ⟨m9, rfl⟩ : ∃ m9 : Nat, n = m9 := ⟨n.toNat, by omega⟩
              have hb9 := hP3.2
              obtain ⟨t1, t2⟩ := HB4.out m9 (by omega) (by omega) hb9
              have hc := HF.out (singleS A s m9) m9 hssz hn _ hy8.box
              rw [t1, t2] at hc
              have HC9 := Lib.hid hc
              clear hc t1 t2 hb9
              go_wp2_with fail
              all_goals
                refine HC9.out.mono ?_
                rintro e w9 ⟨rfl, hx9⟩
                go_wp2_with fail
                go_ret
                exact ⟨rfl, hy8.box.trans hx9⟩
          · have hb9 : singleB A s n = false := by
              by_cases h9 : singleE A s n = 0
              · cases hq : singleB A s n
                · rfl
                · exact absurd ⟨h9, hq⟩ hP3
              · exact HBE.out h9
            have hS9 := (HSE.out n).resolve_right (by rw [hb9]; decide)
            go_wp2_with fail
            all_goals go_ret
            all_goals exact ⟨rfl, hy8.box⟩
    · by_cases hF0 : F = 0
      · obtain ⟨p1, p2, p3, _⟩ := HFE.out hF0
        go_wp2_with fail
        all_goals (try (exfalso; omega))
        all_goals
          obtain ⟨wc, hyc, hwc⟩ : ∃ wc, Ext (w.alloc (.cells #[.slice fp A.feats.length fc, .slice lp A.lets.length lc] 25)) wc ∧ wc = w3 := ⟨_, hy3, rfl⟩
          rw [← hwc]
          clear hwc d0 d1
          have hsl := HSL.out
          have d0 := hyc.cell0 0; have d1 := hyc.cell0 1; simp at d0 d1
          refine (HWs.out _ hyc.box).mono ?_
          rintro e w5 ⟨rfl, hx5⟩
          have hy5 := hyc.trans hx5
          clear d0 d1
          have d0 := hy5.cell0 0; have d1 := hy5.cell0 1; simp at d0 d1
          clear hx5 hyc
          by_cases hP2 : 0 < l.length ∧ 2 * l.length ≤ 64
          · obtain ⟨q1, q2, q3⟩ := back2 hok hin hP2.1 hP2.2
            have hsw := spell_rb hok (InA_app hin hin) (l := l ++ l) (by rw [List.length_append]; omega)
            obtain ⟨zr, hzr⟩ := runs_twice l hP2.1
            have hc := HS.out (runesBytes (l ++ l)) 0 HWsz (by omega) _ hy5.box
            rw [q1, q2, q3, hsl] at hc
            have HC := Lib.hid hc
            clear hc q1 q2 q3
            go_wp2_with fail
            all_goals
              refine HC.out.mono ?_
              rintro e w6 ⟨rfl, hx6⟩
              have hy6 := hy5.trans hx6
              clear d0 d1
              have d0 := hy6.cell0 0; have d1 := hy6.cell0 1; simp at d0 d1
              have hr := HR.out (runesBytes (l ++ l)) HWsz _ hy6.box
              rw [hsw] at hr
              simp only at hr
              rw [hzr] at hr
              have HRR := Lib.hid hr
              clear hr hsw hzr
              go_wp2_with fail
              refine HRR.out.mono ?_
              rintro e w7 ⟨zp, zc, rfl, hown, hx7⟩
              have hy7 := hy6.trans hx7
              clear d0 d1
              have d0 := hy7.cell0 0; have d1 := hy7.cell0 1; simp at d0 d1
              obtain ⟨zb, zo, rfl, hzb, c0, c1⟩ := (SpanAt.of_own hown).cells (i := 0) (by simp)
              simp at c0 c1
              go_wp2_with fail
              all_goals
                refine (HSs.out _ hy7.box).mono ?_
                rintro e w8 ⟨rfl, hx8⟩
                have hy8 := hy7.trans hx8
                clear d0 d1
                have d0 := hy8.cell0 0; have d1 := hy8.cell0 1; simp at d0 d1
                have hssz := singleS_small A s n
                by_cases hP3 : singleE A s n = 0 ∧ singleB A s n = true
                · obtain ⟨b1, b2⟩ := HBR.out hP3.1
                  by_cases hn0 : n = 0
                  · subst hn0
                    have hb9 := hP3.2
                    obtain ⟨t1, t2⟩ := HB3.out hb9
                    have hc := HW.out (singleS A s 0) hssz _ hy8.box
                    rw [t1, t2] at hc
                    have HC9 := Lib.hid hc
                    clear hc t1 t2 hb9
                    go_wp2_with fail
                    all_goals
                      refine HC9.out.mono ?_
                      rintro e w9 ⟨rfl, hx9⟩
                      go_wp2_with fail
                      go_ret
                      exact ⟨rfl, hy8.box.trans hx9⟩
                  · obtain ⟨m9, rfl⟩ : ∃ m9 : Nat, n = m9 := ⟨n.toNat, by omega⟩
                    have hb9 := hP3.2
                    obtain ⟨t1, t2⟩ := HB4.out m9 (by omega) (by omega) hb9
                    have hc := HF.out (singleS A s m9) m9 hssz hn _ hy8.box
                    rw [t1, t2] at hc
                    have HC9 := Lib.hid hc
                    clear hc t1 t2 hb9
                    go_wp2_with fail
                    all_goals
                      refine HC9.out.mono ?_
                      rintro e w9 ⟨rfl, hx9⟩
                      go_wp2_with fail
                      go_ret
                      exact ⟨rfl, hy8.box.trans hx9⟩
                · have hb9 : singleB A s n = false := by
                    by_cases h9 : singleE A s n = 0
                    · cases hq : singleB A s n
                      · rfl
                      · exact absurd ⟨h9, hq⟩ hP3
                    · exact HBE.out h9
                  have hS9 := (HSE.out n).resolve_right (by rw [hb9]; decide)
                  go_wp2_with fail
                  all_goals go_ret
                  all_goals exact ⟨rfl, hy8.box⟩
          · go_wp2_with fail
            all_goals
              refine (HSs.out _ hy5.box).mono ?_
              rintro e w8 ⟨rfl, hx8⟩
              have hy8 := hy5.trans hx8
              clear d0 d1
              have d0 := hy8.cell0 0; have d1 := hy8.cell0 1; simp at d0 d1
              have hssz := singleS_small A s n
              by_cases hP3 : singleE A s n = 0 ∧ singleB A s n = true
              · obtain ⟨b1, b2⟩ := HBR.out hP3.1
                by_cases hn0 : n = 0
                · subst hn0
                  have hb9 := hP3.2
                  obtain ⟨t1, t2⟩ := HB3.out hb9
                  have hc := HW.out (singleS A s 0) hssz _ hy8.box
                  rw [t1, t2] at hc
                  have HC9 := Lib.hid hc
                  clear hc t1 t2 hb9
                  go_wp2_with fail
                  all_goals
                    refine HC9.out.mono ?_
                    rintro e w9 ⟨rfl, hx9⟩
                    go_wp2_with fail
                    go_ret
                    exact ⟨rfl, hy8.box.trans hx9⟩
                · obtain ⟨m9, rfl⟩ : ∃ m9 : Nat, n = m9 := ⟨n.toNat, by omega⟩
                  have hb9 := hP3.2
                  obtain ⟨t1, t2⟩ := HB4.out m9 (by omega) (by omega) hb9
                  have hc := HF.out (singleS A s m9) m9 hssz hn _ hy8.box
                  rw [t1, t2] at hc
                  have HC9 := Lib.hid hc
                  clear hc t1 t2 hb9
                  go_wp2_with fail
                  all_goals
                    refine HC9.out.mono ?_
                    rintro e w9 ⟨rfl, hx9⟩
                    go_wp2_with fail
                    go_ret
                    exact ⟨rfl, hy8.box.trans hx9⟩
              · have hb9 : singleB A s n = false := by
                  by_cases h9 : singleE A s n = 0
                  · cases hq : singleB A s n
                    · rfl
                    · exact absurd ⟨h9, hq⟩ hP3
                  · exact HBE.out h9
                have hS9 := (HSE.out n).resolve_right (by rw [hb9]; decide)
                go_wp2_with fail
                all_goals go_ret
                all_goals exact ⟨rfl, hy8.box⟩
      · go_wp2_with fail
        all_goals
          obtain ⟨wc, hyc, hwc⟩ : ∃ wc, Ext (w.alloc (.cells #[.slice fp A.feats.length fc, .slice lp A.lets.length lc] 25)) wc ∧ wc = w3 := ⟨_, hy3, rfl⟩
          rw [← hwc]
          clear hwc d0 d1
          have hsl := HSL.out
          have d0 := hyc.cell0 0; have d1 := hyc.cell0 1; simp at d0 d1
          refine (HWs.out _ hyc.box).mono ?_
          rintro e w5 ⟨rfl, hx5⟩
          have hy5 := hyc.trans hx5
          clear d0 d1
          have d0 := hy5.cell0 0; have d1 := hy5.cell0 1; simp at d0 d1
          clear hx5 hyc
          by_cases hP2 : 0 < l.length ∧ 2 * l.length ≤ 64
          · obtain ⟨q1, q2, q3⟩ := back2 hok hin hP2.1 hP2.2
            have hsw := spell_rb hok (InA_app hin hin) (l := l ++ l) (by rw [List.length_append]; omega)
            obtain ⟨zr, hzr⟩ := runs_twice l hP2.1
            have hc := HS.out (runesBytes (l ++ l)) 0 HWsz (by omega) _ hy5.box
            rw [q1, q2, q3, hsl] at hc
            have HC := Lib.hid hc
            clear hc q1 q2 q3
            go_wp2_with fail
            all_goals
              refine HC.out.mono ?_
              rintro e w6 ⟨rfl, hx6⟩
              have hy6 := hy5.trans hx6
              clear d0 d1
              have d0 := hy6.cell0 0; have d1 := hy6.cell0 1; simp at d0 d1
              have hr := HR.out (runesBytes (l ++ l)) HWsz _ hy6.box
              rw [hsw] at hr
              simp only at hr
              rw [hzr] at hr
              have HRR := Lib.hid hr
              clear hr hsw hzr
              go_wp2_with fail
              refine HRR.out.mono ?_
              rintro e w7 ⟨zp, zc, rfl, hown, hx7⟩
              have hy7 := hy6.trans hx7
              clear d0 d1
              have d0 := hy7.cell0 0; have d1 := hy7.cell0 1; simp at d0 d1
              obtain ⟨zb, zo, rfl, hzb, c0, c1⟩ := (SpanAt.of_own hown).cells (i := 0) (by simp)
              simp at c0 c1
              go_wp2_with fail
              all_goals
                refine (HSs.out _ hy7.box).mono ?_
                rintro e w8 ⟨rfl, hx8⟩
                have hy8 := hy7.trans hx8
                clear d0 d1
                have d0 := hy8.cell0 0; have d1 := hy8.cell0 1; simp at d0 d1
                have hssz := singleS_small A s n
                by_cases hP3 : singleE A s n = 0 ∧ singleB A s n = true
                · obtain ⟨b1, b2⟩ := HBR.out hP3.1
                  by_cases hn0 : n = 0
                  · subst hn0
                    have hb9 := hP3.2
                    obtain ⟨t1, t2⟩ := HB3.out hb9
                    have hc := HW.out (singleS A s 0) hssz _ hy8.box
                    rw [t1, t2] at hc
                    have HC9 := Lib.hid hc
                    clear hc t1 t2 hb9
                    go_wp2_with fail
                    all_goals
                      refine HC9.out.mono ?_
                      rintro e w9 ⟨rfl, hx9⟩
                      go_wp2_with fail
                      go_ret
                      exact ⟨rfl, hy8.box.trans hx9⟩
                  · obtain ⟨m9, rfl⟩ : ∃ m9 : Nat, n = m9 := ⟨n.toNat, by omega⟩
                    have hb9 := hP3.2
                    obtain ⟨t1, t2⟩ := HB4.out m9 (by omega) (by omega) hb9
                    have hc := HF.out (singleS A s m9) m9 hssz hn _ hy8.box
                    rw [t1, t2] at hc
                    have HC9 := Lib.hid hc
                    clear hc t1 t2 hb9
                    go_wp2_with fail
                    all_goals
                      refine HC9.out.mono ?_
                      rintro e w9 ⟨rfl, hx9⟩
                      go_wp2_with fail
                      go_ret
                      exact ⟨rfl, hy8.box.trans hx9⟩
                · have hb9 : singleB A s n = false := by
                    by_cases h9 : singleE A s n = 0
                    · cases hq : singleB A s n
                      · rfl
                      · exact absurd ⟨h9, hq⟩ hP3
                    · exact HBE.out h9
                  have hS9 := (HSE.out n).resolve_right (by rw [hb9]; decide)
                  go_wp2_with fail
                  all_goals go_ret
                  all_goals exact ⟨rfl, hy8.box⟩
          · go_wp2_with fail
            all_goals
              refine (HSs.out _ hy5.box).mono ?_
              rintro e w8 ⟨rfl, hx8⟩
              have hy8 := hy5.trans hx8
              clear d0 d1
              have d0 := hy8.cell0 0; have d1 := hy8.cell0 1; simp at d0 d1
              have hssz := singleS_small A s n
              by_cases hP3 : singleE A s n = 0 ∧ singleB A s n = true
              · obtain ⟨b1, b2⟩ := HBR.out hP3.1
                by_cases hn0 : n = 0
                · subst hn0
                  have hb9 := hP3.2
                  obtain ⟨t1, t2⟩ := HB3.out hb9
                  have hc := HW.out (singleS A s 0) hssz _ hy8.box
                  rw [t1, t2] at hc
                  have HC9 := Lib.hid hc
                  clear hc t1 t2 hb9
                  go_wp2_with fail
                  all_goals
                    refine HC9.out.mono ?_
                    rintro e w9 ⟨rfl, hx9⟩
                    go_wp2_with fail
                    go_ret
                    exact ⟨rfl, hy8.box.trans hx9⟩
                · obtain ⟨m9, rfl⟩ : ∃ m9 : Nat, n = m9 := ⟨n.toNat, by omega⟩
                  have hb9 := hP3.2
                  obtain ⟨t1, t2⟩ := HB4.out m9 (by omega) (by omega) hb9
                  have hc := HF.out (singleS A s m9) m9 hssz hn _ hy8.box
                  rw [t1, t2] at hc
                  have HC9 := Lib.hid hc
                  clear hc t1 t2 hb9
                  go_wp2_with fail
                  all_goals
                    refine HC9.out.mono ?_
                    rintro e w9 ⟨rfl, hx9⟩
                    go_wp2_with fail
                    go_ret
                    exact ⟨rfl, hy8.box.trans hx9⟩
              · have hb9 : singleB A s n = false := by
                  by_cases h9 : singleE A s n = 0
                  · cases hq : singleB A s n
                    · rfl
                    · exact absurd ⟨h9, hq⟩ hP3
                  · exact HBE.out h9
                have hS9 := (HSE.out n).resolve_right (by rw [hb9]; decide)
                go_wp2_with fail
                all_goals go_ret
                all_goals exact ⟨rfl, hy8.box⟩
  · have hl := spell_err h0
    have h1 := single_err n h0
    have h2 := front_err n h0
    have hLs := fun W hW => HL.out W hW
    have hFs := fun W hW => HF.out s n hs hn W hW
    have hSs := fun W hW => HS.out s n hs hn W hW
    rw [hl] at hLs
    rw [h2] at hFs
    rw [h1] at hSs
    have HLs := Lib.hid hLs
    have HFs := Lib.hid hFs
    have HSs := Lib.hid hSs
    clear hLs hFs hSs HL HF HS HW HR
    obtain ⟨er, her⟩ : ∃ er, (spell A s).2 = er := ⟨_, rfl⟩
    rw [her] at h0 HLs HFs HSs
    clear her hl h1 h2
    have hne : (er != 0) = true := by rw [bne_iff_ne]; exact h0
    go_enter Tryd.func4, Tryd.ntmps4
    go_wp2_with (first | (go_at_call 7; refine (awake_any _ (hT.ext hx0)).mono ?_; rintro e w1 ⟨rfl, hx1⟩; have d0 := hx1.cell0 0; have d1 := hx1.cell0 1; simp at d0 d1) | (go_at_call 13; refine (HLs.out _ hx1.box).mono ?_; rintro e w2 ⟨rp, rc, rfl, ho, hx2⟩; have hy2 := hx1.trans hx2; have e0 := hy2.cell0 0; have e1 := hy2.cell0 1; simp at e0 e1) | (go_at_call 14; refine (HFs.out _ hy2.box).mono ?_; rintro e w3 ⟨rfl, hx3⟩; have hy3 := hy2.trans hx3; have f0 := hy3.cell0 0; have f1 := hy3.cell0 1; simp at f0 f1) | (go_at_call 15; refine (HSs.out _ hy3.box).mono ?_; rintro e w4 ⟨rfl, hx4⟩))
    go_ret
    exact ⟨rfl, hy3.box.trans hx4⟩

end Go.Proofs.YtcjdpicepjoeoaaDoor
