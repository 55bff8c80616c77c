/- The law HarmonyLetters, walked. -/
import Derived.Test.YtcnjgfadihimiaaDoorHaru
namespace Go.Proofs.YtcnjgfadihimiaaDoor
open Go.RowKit Go.Cg Go.Shelf Go.Maps

set_option maxRecDepth 100000 in
set_option maxHeartbeats 8000000 in
theorem harmonyLetters_any (fp lp : Option Addr) (fc lc : Nat) (A : Alpha) (s : ByteArray) (hs : s.size ≤ 140737488351232) (p : Nat) (hp : p < 4294967296) (k : Nat) (hk : k < 4294967296) (w : World) (hA : AlphaAt w fp lp A) (hTb : Tabs w) :
    Calls Tryd.prog 6 #[.agg #[.slice fp A.feats.length fc, .slice lp A.lets.length lc], .string s, .int .u32 p, .int .u32 k] w fun e w' => e = .returned (.bool true) ∧ Ext w w' := by
  have hx0 : Ext w (w.alloc (.cells #[.slice fp A.feats.length fc, .slice lp A.lets.length lc] 26)) := (Ext.refl _).alloc _
  have HBX := Lib.hid (fun W (hW : Ext (w.alloc (.cells #[.slice fp A.feats.length fc, .slice lp A.lets.length lc] 26)) W) => (⟨hW.cell0 0, hW.cell0 1, hW.lt0⟩ : W.cell? ⟨w.heap.size, 0, none⟩ = some (.slice fp A.feats.length fc) ∧ W.cell? ⟨w.heap.size, 1, none⟩ = some (.slice lp A.lets.length lc) ∧ w.heap.size < W.heap.size))
  have HAL := Lib.hid (alive14_any _ (hTb.ext hx0))
  by_cases hl : 2000 < s.size
  · have gl : decide ((2000 : Int) < (s.size : Int)) = true := by simp; omega
    go_enter Tryd.func6, Tryd.ntmps6
    go_wp2_with fail
    refine HAL.out.mono ?_
    rintro e w1 ⟨rfl, hx1⟩
    go_wp2_with fail
    go_ret
    exact ⟨rfl, hx0.trans hx1⟩
  · have gl : decide ((2000 : Int) < (s.size : Int)) = false := by simp; omega
    have h1 := fun W (hW : Ext w W) => spreadW_any fp lp fc lc A s hs p k hp hk W (hA.mono hW) (hTb.ext hW)
    by_cases h0 : signE A s [p, k] = 0
    · rw [h0] at h1
      have hl0 := (signE_zero h0).1
      have hm0 := (signE_zero h0).2
      have hok := (ltr_ok hl0).1
      have h64 := (ltr_ok hl0).2.2.2
      obtain ⟨q1, q2⟩ := sprS_ltr h0
      have hSs : (sprS A s p k).size ≤ 140737488351232 := by
        have h9 : sprS A s p k = fromS A s p k (firstI (sgn A s) p) := if_pos h0
        rw [h9]
        cases hf : firstI (sgn A s) p with
        | none => exact hs
        | some f =>
          have := rb_size_le (sprL A (sgn A s) p k f)
          have h8 := sgn_len hl0
          rw [sprL_len] at this
          show (runesBytes (sprL A (sgn A s) p k f)).size ≤ _
          omega
      have hlw := fun W (hW : Ext w W) => letters_any fp lp fc lc A s hs W (hA.mono hW) (hTb.ext hW)
      have hlm := fun W (hW : Ext w W) => letters_any fp lp fc lc A (sprS A s p k) hSs W (hA.mono hW) (hTb.ext hW)
      have e1 : (spell A s).2 = ltrE A s := rfl
      have e2 : (spell A s).1 = ltr A s := rfl
      have e3 : (spell A (sprS A s p k)).2 = ltrE A (sprS A s p k) := rfl
      have e4 : (spell A (sprS A s p k)).1 = ltr A (sprS A s p k) := rfl
      rw [e1, e2, hl0] at hlw
      rw [e3, e4, q1, q2] at hlm
      have hFA := sgn_fromA hl0
      have hmy : mayB A.feats.length p 0 = true := by rw [mayB_zero]; exact decide_eq_true (maskE_lt hm0 (by simp))
      have hat := fun j (hj : j < (sgn A s).length) => sprM_at (p := p) (k := k) hl0 hj
      have hrl := fun j (hj : j < (sgn A s).length) => la_rune hl0 hj
      have HHS := Lib.hid (fun j (hj : j < (sgn A s).length) W (hW : Ext w W) => (by
        obtain ⟨t, ht, e⟩ := hFA j hj
        obtain ⟨z1, z2⟩ := has_zero hok ht hmy
        have := has_any fp lp fc lc A (A.at_ t).rune p 0 hp (by decide) W (hA.mono hW)
        rw [z1, z2, likeB_zero, ← e, la_rune hl0 hj] at this
        exact this : Calls Tryd.prog 25 #[.agg #[.slice fp A.feats.length fc, .slice lp A.lets.length lc], .int .i32 (rn (ltr A s) j), .int .u32 p, .int .u32 0] W fun e W' => e = .returned (.tuple #[.bool (ofB (la (sgn A s) j) p), .int .i64 0]) ∧ Ext W W'))
      have HTK := Lib.hid (fun j (hj : j < (sgn A s).length) f (hf : f < (sgn A s).length) W (hW : Ext w W) => (by
        obtain ⟨t, ht, e⟩ := hFA j hj
        obtain ⟨u, hu, e2⟩ := hFA f hf
        have := taken_any fp lp fc lc A hok t u ht hu k hk W (hA.mono hW)
        rw [← e, ← e2, la_rune hl0 hj, la_rune hl0 hf] at this
        exact this : Calls Tryd.prog 26 #[.agg #[.slice fp A.feats.length fc, .slice lp A.lets.length lc], .int .i32 (takR A (la (sgn A s) j) (la (sgn A s) f) k), .int .i32 (rn (ltr A s) j), .int .i32 (rn (ltr A s) f), .int .u32 k] W fun e W' => e = .returned (.bool true) ∧ Ext W W'))
      have hz : k = 0 → sprS A s p k = s := fun e => by subst e; exact sprS_zero h0
      have hln := sgn_length A s
      have hml := sprM_len A s p k
      have hft0 : ft (sgn A s) p 0 = none := rfl
      obtain ⟨TK, hTK⟩ : ∃ TK, takR A = TK := ⟨_, rfl⟩
      rw [hTK] at hat HTK
      obtain ⟨FT, hFT⟩ : ∃ FT, ft (sgn A s) p = FT := ⟨_, rfl⟩
      rw [hFT] at hat hft0
      obtain ⟨S, hS⟩ : ∃ S, sprS A s p k = S := ⟨_, rfl⟩
      rw [hS] at h1 hlm hz
      obtain ⟨M, hM⟩ : ∃ M, sprM A s p k = M := ⟨_, rfl⟩
      rw [hM] at hlm hat hml
      obtain ⟨X, hX⟩ : ∃ X, ltr A s = X := ⟨_, rfl⟩
      rw [hX] at hlw hat HHS HTK hln hml h64
      obtain ⟨L, hL⟩ : ∃ L, sgn A s = L := ⟨_, rfl⟩
      rw [hL] at hat HHS HTK hln
      obtain ⟨Y, hY⟩ : ∃ Y, X.length = Y := ⟨_, rfl⟩
      rw [hY] at hln hml h64
      rw [hY] at hlw
      rw [hml] at hlm
      have HAT := Lib.hid hat
      have HLN := Lib.hid hln
      have HLW := Lib.hid hlw
      have HLM := Lib.hid hlm
      have H1 := Lib.hid h1
      have HZ := Lib.hid hz
      have HML := Lib.hid hml
      have HYY := Lib.hid hY
      have HF0 := Lib.hid hft0
      clear h0 h1 hl hl0 hm0 hok q1 q2 hSs hlw hlm e1 e2 e3 e4 hFA hmy hat hrl hz hln hml hft0 hTK hFT hS hM hX hL hY
      go_enter Tryd.func6, Tryd.ntmps6
      go_wp2_with fail
      refine HAL.out.mono ?_
      rintro e w1 ⟨rfl, hx1⟩
      obtain ⟨d0, d1, l0⟩ := HBX.out _ hx1
      go_wp2_with fail
      refine (H1.out _ (hx0.trans hx1)).mono ?_
      rintro e w2 ⟨rfl, hx2⟩
      have hx2 := hx1.trans hx2
      obtain ⟨d0, d1, l0⟩ := HBX.out _ hx2
      go_wp2_with fail
      refine (HLW.out _ (hx0.trans hx2)).mono ?_
      rintro e w3 ⟨xp, xc, rfl, ho3, hx3⟩
      have hR3 := ho3.at_
      have hx3 := hx2.trans hx3
      obtain ⟨d0, d1, l0⟩ := HBX.out _ hx3
      go_wp2_with fail
      refine (HLM.out _ (hx0.trans hx3)).mono ?_
      rintro e w4 ⟨yp, yc, rfl, ho4, hx4⟩
      have hR4 := ho4.at_
      have hR3 := hR3.mono hx4
      have hx4 := hx3.trans hx4
      clear ho3 ho4 d0 d1 l0
      have hxw := hx0.trans hx4
      go_wp2_with fail
      go_loopw [16, 17] (fun f i wr => ∃ j : Nat, j ≤ Y ∧ i = .int .i64 j ∧ f = .int .i64 (nxV (FT j)) ∧ Ext w4 wr) (fun _ i _ => Y - (intOf i).toNat)
      case atStart => exact ⟨0, Nat.zero_le _, rfl, by rw [HF0.out]; rfl, Ext.refl _⟩
      case round =>
        obtain ⟨j, hj, rfl, rfl, hx⟩ := hrel
        by_cases hlt : j < Y
        · have hjL : j < L.length := by rw [HLN.out]; exact hlt
          have hjX : j < X.length := by rw [HYY.out]; exact hlt
          have hjM : j < M.length := by rw [HML.out]; exact hlt
          obtain ⟨bx, ox, ex, hbx, cx⟩ := (hR3.mono hx).cells hjX
          obtain ⟨by_, oy, ey, hby, cy⟩ := (hR4.mono hx).cells hjM
          subst ex
          subst ey
          obtain ⟨d0, d1, l0⟩ := HBX.out _ (hx4.trans hx)
          obtain ⟨a1, a2, a3⟩ := HAT.out j hjL
          have hhs := HHS.out j hjL
          cases hB : ofB (la L j) p
          · rw [hB] at hhs
            obtain ⟨b1, b2⟩ := a1 hB
            rw [b1] at cy
            have HH := Lib.hid hhs
            have HB2 := Lib.hid b2
            obtain ⟨z, hz⟩ : ∃ z, nxV (FT j) = z := ⟨_, rfl⟩
            rw [hz]
            have HZZ := Lib.hid hz
            have HCX := Lib.hid cx
            have HCY := Lib.hid cy
            clear a1 a2 a3 hhs hB b1 b2 hjL hjX hjM hz cy
            go_wp2_with fail
            (refine wp_region_ext (by kernel_rfl) (by kernel_rfl) ?_; intro ι hι g hg; have q_d0 := hg.cell d0; have q_d1 := hg.cell d1; have q_cx := hg.cell cx; clear d0 d1 cx; (repeat (go_big_quiet_step ((go_at_call 25; exact hg.call (HH.out _ (hxw.trans (hx.trans (hg.ext _)))))))); refine wpQuiet_nil ?_; rintro w8 ⟨i2, rfl⟩; have hq := hg.ext i2; generalize g i2 = w8 at hq ⊢; clear q_d0 q_d1 q_cx i2 hg g hι ι)
            have cx := (hq.facts.1 _ _ hbx).trans HCX.out
            have cy := (hq.facts.1 _ _ hby).trans HCY.out
            go_wp2_with fail
            (refine wp_region_ext (by kernel_rfl) (by kernel_rfl) ?_; intro ι hι g hg; have q_cx := hg.cell cx; have q_cy := hg.cell cy; clear cx cy; (repeat (go_big_quiet_step (fail))); refine wpQuiet_nil ?_; rintro w9 ⟨i2, rfl⟩; have hq9 := hg.ext i2; generalize g i2 = w9 at hq9 ⊢; clear q_cx q_cy i2 hg g hι ι)
            go_wp2_with fail
            exact ⟨⟨j + 1, by omega, by go_num, by rw [HB2.out, HZZ.out], hx.trans (hq.trans hq9)⟩, by simp [intOf]; omega⟩
          · rw [hB] at hhs
            have HH := Lib.hid hhs
            have HCX := Lib.hid cx
            cases hf : FT j with
            | none =>
              obtain ⟨b1, b2⟩ := a2 hB hf
              rw [b1] at cy
              have HCY := Lib.hid cy
              have HB2 := Lib.hid b2
              have hn : nxV none = -1 := rfl
              rw [hn]
              clear a1 a2 a3 hhs hB b1 b2 hjL hjX hjM hf hn cy
              go_wp2_with fail
              (refine wp_region_ext (by kernel_rfl) (by kernel_rfl) ?_; intro ι hι g hg; have q_d0 := hg.cell d0; have q_d1 := hg.cell d1; have q_cx := hg.cell cx; clear d0 d1 cx; (repeat (go_big_quiet_step ((go_at_call 25; exact hg.call (HH.out _ (hxw.trans (hx.trans (hg.ext _)))))))); refine wpQuiet_nil ?_; rintro w8 ⟨i2, rfl⟩; have hq := hg.ext i2; generalize g i2 = w8 at hq ⊢; clear q_d0 q_d1 q_cx i2 hg g hι ι)
              have cx := (hq.facts.1 _ _ hbx).trans HCX.out
              have cy := (hq.facts.1 _ _ hby).trans HCY.out
              go_wp2_with fail
              (refine wp_region_ext (by kernel_rfl) (by kernel_rfl) ?_; intro ι hι g hg; have q_cx := hg.cell cx; have q_cy := hg.cell cy; clear cx cy; (repeat (go_big_quiet_step (fail))); refine wpQuiet_nil ?_; rintro w9 ⟨i2, rfl⟩; have hq9 := hg.ext i2; generalize g i2 = w9 at hq9 ⊢; clear q_cx q_cy i2 hg g hι ι)
              go_wp2_with fail
              exact ⟨⟨j + 1, by omega, by go_num, by rw [HB2.out]; rfl, hx.trans (hq.trans hq9)⟩, by simp [intOf]; omega⟩
            | some f =>
              obtain ⟨b0, b1, b2⟩ := a3 hB f hf
              rw [b1] at cy
              have HCY := Lib.hid cy
              have HB2 := Lib.hid b2
              have hfY : f < Y := by rw [← HLN.out]; exact b0
              obtain ⟨_, cf⟩ := (hR3.mono hx).cell (i := f) (by rw [HYY.out]; exact hfY)
              have HCF := Lib.hid cf
              have HT := Lib.hid (HTK.out j hjL f b0)
              have hn : nxV (some f) = (f : Int) := rfl
              rw [hn]
              clear a1 a2 a3 hhs hB b0 b1 b2 hjL hjX hjM hf hn cy cf
              go_wp2_with fail
              (refine wp_region_ext (by kernel_rfl) (by kernel_rfl) ?_; intro ι hι g hg; have q_d0 := hg.cell d0; have q_d1 := hg.cell d1; have q_cx := hg.cell cx; clear d0 d1 cx; (repeat (go_big_quiet_step ((go_at_call 25; exact hg.call (HH.out _ (hxw.trans (hx.trans (hg.ext _)))))))); refine wpQuiet_nil ?_; rintro w8 ⟨i2, rfl⟩; have hq := hg.ext i2; generalize g i2 = w8 at hq ⊢; clear q_d0 q_d1 q_cx i2 hg g hι ι)
              have cx := (hq.facts.1 _ _ hbx).trans HCX.out
              have cy := (hq.facts.1 _ _ hby).trans HCY.out
              have cf := (hq.facts.1 _ _ hbx).trans HCF.out
              obtain ⟨d0, d1, l0⟩ := HBX.out _ (hx4.trans (hx.trans hq))
              obtain ⟨T, hT⟩ : ∃ T, TK (la L j) (la L f) k = T := ⟨_, rfl⟩
              rw [hT] at cy HT
              clear hT
              go_wp2_with fail
              (refine wp_region_ext (by kernel_rfl) (by kernel_rfl) ?_; intro ι hι g hg; have q_d0 := hg.cell d0; have q_d1 := hg.cell d1; have q_cx := hg.cell cx; have q_cy := hg.cell cy; have q_cf := hg.cell cf; clear d0 d1 cx cy cf; (repeat (go_big_quiet_step ((go_at_call 26; exact hg.call (HT.out _ (hxw.trans ((hx.trans hq).trans (hg.ext _)))))))); refine wpQuiet_nil ?_; rintro w9 ⟨i2, rfl⟩; have hq9 := hg.ext i2; generalize g i2 = w9 at hq9 ⊢; clear q_d0 q_d1 q_cx q_cy q_cf i2 hg g hι ι)
              go_wp2_with fail
              exact ⟨⟨j + 1, by omega, by go_num, by rw [HB2.out]; rfl, hx.trans (hq.trans hq9)⟩, by simp [intOf]; omega⟩
        · have e : j = Y := by omega
          subst e
          by_cases hk0 : k = 0
          · have gk : ((k : Int) != 0) = false := by rw [hk0]; rfl
            have hSs := HZ.out hk0
            subst hSs
            clear hk0
            go_wp2_with fail
            go_ret
            exact ⟨rfl, hxw.trans hx⟩
          · have gk : ((k : Int) != 0) = true := by rw [bne_iff_ne]; omega
            clear hk0
            go_wp2_with fail
            go_ret
            exact ⟨rfl, hxw.trans hx⟩
    · rw [show sprS A s p k = ⟨#[]⟩ from if_neg h0] at h1
      have gE : (signE A s [p, k] != 0) = true := by rw [bne_iff_ne]; exact h0
      obtain ⟨E, hE⟩ : ∃ E, signE A s [p, k] = E := ⟨_, rfl⟩
      rw [hE] at h1 gE
      have H1 := Lib.hid h1
      clear h0 h1 hE hl
      go_enter Tryd.func6, Tryd.ntmps6
      go_wp2_with fail
      refine HAL.out.mono ?_
      rintro e w1 ⟨rfl, hx1⟩
      obtain ⟨d0, d1, l0⟩ := HBX.out _ hx1
      go_wp2_with fail
      refine (H1.out _ (hx0.trans hx1)).mono ?_
      rintro e w2 ⟨rfl, hx2⟩
      go_wp2_with fail
      go_ret
      exact ⟨rfl, (hx0.trans hx1).trans hx2⟩

end Go.Proofs.YtcnjgfadihimiaaDoor
