/- The law HarmonyMeets, walked. -/
import Derived.Test.YtcnjgfadihimiaaDoorHaru
namespace Go.Cg
open Go.RowKit Go.Lib
/-- the next one's rune -/
def nv (X : List Int) : Option Nat → Int
  | none => 0
  | some q => rn X q
/-- the letters where letters meet -/
theorem metM_at {A : Alpha} {s : ByteArray} (p c k : Nat) (h : ltrE A s = 0) {j : Nat} (hj : j < (sgn A s).length) :
    (∀ o, nxtR (sgn A s) c ((sgn A s).length - (j + 1)) = o → (∀ q, o = some q → q < (sgn A s).length) ∧ nxtR (sgn A s) c ((sgn A s).length - j) = (if ofB (la (sgn A s) j) c = true then some j else o) ∧ (ofB (la (sgn A s) j) p = false ∨ o = none → rn (metL A (sgn A s) p c k) j = rn (ltr A s) j) ∧ (ofB (la (sgn A s) j) p = true → ∀ q, o = some q → rn (metL A (sgn A s) p c k) j = takR A (la (sgn A s) j) (la (sgn A s) q) k)) := by
  intro o ho
  have hrn := la_rune h hj
  have hm : rn (metL A (sgn A s) p c k) j = metO A (sgn A s) p k j o := by
    rw [metL_at _ _ _ _ _ hj]
    unfold metR
    rw [show (sgn A s).length - 1 - j = (sgn A s).length - (j + 1) by omega, ho]
  refine ⟨fun q hq => ?_, ?_, fun hc => ?_, fun hB q hq => ?_⟩
  · subst hq; exact nxtR_lt (by omega) ho
  · rw [nxtR_step hj, ho]
  · rw [hm]
    cases o with
    | none => exact hrn
    | some q =>
      rcases hc with hc | hc
      · show (if ofB (la (sgn A s) j) p = true then takR A (la (sgn A s) j) (la (sgn A s) q) k else (la (sgn A s) j).rune) = _
        rw [hc, if_neg (by decide)]; exact hrn
      · cases hc
  · subst hq
    rw [hm]
    show (if ofB (la (sgn A s) j) p = true then takR A (la (sgn A s) j) (la (sgn A s) q) k else (la (sgn A s) j).rune) = _
    rw [hB, if_pos rfl]
theorem rune_nz {A : Alpha} (hA : A.Ok) {r : Int} (h : 0 ≤ findLetter A r) : r ≠ 0 := by
  obtain ⟨i, _, hi, hr, _⟩ := findLetter_some h
  have := (hA.2.2.2.2 i hi).1
  rw [hr] at this
  intro e
  subst e
  revert this; decide
end Go.Cg
namespace Go.Proofs.YtcnjgfadihimiaaDoor
open Go.RowKit Go.Cg Go.Shelf Go.Maps

set_option maxRecDepth 100000 in
set_option maxHeartbeats 8000000 in
theorem harmonyMeets_any (fp lp : Option Addr) (fc lc : Nat) (A : Alpha) (s : ByteArray) (hs : s.size ≤ 140737488351232) (p : Nat) (hp : p < 4294967296) (c : Nat) (hc : c < 4294967296) (k : Nat) (hk : k < 4294967296) (w : World) (hA : AlphaAt w fp lp A) (hTb : Tabs w) :
    Calls Tryd.prog 7 #[.agg #[.slice fp A.feats.length fc, .slice lp A.lets.length lc], .string s, .int .u32 p, .int .u32 c, .int .u32 k] w fun e w' => e = .returned (.bool true) ∧ Ext w w' := by
  have hx0 : Ext w (w.alloc (.cells #[.slice fp A.feats.length fc, .slice lp A.lets.length lc] 26)) := (Ext.refl _).alloc _
  have HBX := Lib.hid (fun W (hW : Ext (w.alloc (.cells #[.slice fp A.feats.length fc, .slice lp A.lets.length lc] 26)) W) => (⟨hW.cell0 0, hW.cell0 1, hW.lt0⟩ : W.cell? ⟨w.heap.size, 0, none⟩ = some (.slice fp A.feats.length fc) ∧ W.cell? ⟨w.heap.size, 1, none⟩ = some (.slice lp A.lets.length lc) ∧ w.heap.size < W.heap.size))
  have HAL := Lib.hid (alive14_any _ (hTb.ext hx0))
  by_cases hl : 2000 < s.size
  · have gl : decide ((2000 : Int) < (s.size : Int)) = true := by simp; omega
    go_enter Tryd.func7, Tryd.ntmps7
    go_wp2_with fail
    refine HAL.out.mono ?_
    rintro e w1 ⟨rfl, hx1⟩
    go_wp2_with fail
    go_ret
    exact ⟨rfl, hx0.trans hx1⟩
  · have gl : decide ((2000 : Int) < (s.size : Int)) = false := by simp; omega
    have h1 := fun W (hW : Ext w W) => meet_any fp lp fc lc A s hs p c k hp hc hk W (hA.mono hW) (hTb.ext hW)
    by_cases h0 : signE A s [p, c, k] = 0
    · rw [h0] at h1
      have hl0 := (signE_zero h0).1
      have hm0 := (signE_zero h0).2
      have hok := (ltr_ok hl0).1
      have h64 := (ltr_ok hl0).2.2.2
      have hin := (ltr_ok hl0).2.2.1
      have hFA := sgn_fromA hl0
      have hSL : meetS A s p c k = runesBytes (metL A (sgn A s) p c k) := if_pos h0
      have hml : (metL A (sgn A s) p c k).length = (ltr A s).length := by rw [metL_len, sgn_length]
      obtain ⟨q1, q2⟩ := ltr_rb hok (metL_inA hok hFA p c k) (by rw [metL_len]; exact sgn_len hl0)
      rw [← hSL] at q1 q2
      have hSs : (meetS A s p c k).size ≤ 140737488351232 := by
        rw [hSL]
        have := rb_size_le (metL A (sgn A s) p c k)
        omega
      have hlw := fun W (hW : Ext w W) => letters_any fp lp fc lc A s hs W (hA.mono hW) (hTb.ext hW)
      have hlm := fun W (hW : Ext w W) => letters_any fp lp fc lc A (meetS A s p c k) hSs W (hA.mono hW) (hTb.ext hW)
      have e1 : (spell A s).2 = ltrE A s := rfl
      have e2 : (spell A s).1 = ltr A s := rfl
      have e3 : (spell A (meetS A s p c k)).2 = ltrE A (meetS A s p c k) := rfl
      have e4 : (spell A (meetS A s p c k)).1 = ltr A (meetS A s p c k) := rfl
      rw [e1, e2, hl0] at hlw
      rw [e3, e4, q1, q2] at hlm
      have hmy : ∀ x, x ∈ [p, c, k] → mayB A.feats.length x 0 = true := fun x hx => by rw [mayB_zero]; exact decide_eq_true (maskE_lt hm0 hx)
      have hat := fun j (hj : j < (sgn A s).length) => metM_at p c k hl0 hj
      have HHS := Lib.hid (fun j (hj : j < (sgn A s).length) x (hx : x ∈ [p, c, k]) (hx2 : x < 4294967296) b (hb : ofB (la (sgn A s) j) x = b) W (hW : Ext w W) => (by
        obtain ⟨t, ht, e⟩ := hFA j hj
        obtain ⟨z1, z2⟩ := has_zero hok ht (hmy x hx)
        have := has_any fp lp fc lc A (A.at_ t).rune x 0 hx2 (by decide) W (hA.mono hW)
        rw [z1, z2, likeB_zero, ← e, la_rune hl0 hj, hb] at this
        exact this : Calls Tryd.prog 25 #[.agg #[.slice fp A.feats.length fc, .slice lp A.lets.length lc], .int .i32 (rn (ltr A s) j), .int .u32 x, .int .u32 0] W fun e W' => e = .returned (.tuple #[.bool b, .int .i64 0]) ∧ Ext W W'))
      have HTK := Lib.hid (fun j (hj : j < (sgn A s).length) f (hf : f < (sgn A s).length) W (hW : Ext w W) => (by
        obtain ⟨t, ht, e⟩ := hFA j hj
        obtain ⟨u, hu, e2⟩ := hFA f hf
        have := taken_any fp lp fc lc A hok t u ht hu k hk W (hA.mono hW)
        rw [← e, ← e2, la_rune hl0 hj, la_rune hl0 hf] at this
        exact this : Calls Tryd.prog 26 #[.agg #[.slice fp A.feats.length fc, .slice lp A.lets.length lc], .int .i32 (takR A (la (sgn A s) j) (la (sgn A s) f) k), .int .i32 (rn (ltr A s) j), .int .i32 (rn (ltr A s) f), .int .u32 k] W fun e W' => e = .returned (.bool true) ∧ Ext W W'))
      have HNZ := Lib.hid (fun j (hj : j < (ltr A s).length) => rune_nz hok (hin (rn (ltr A s) j) (by rw [rn_eq hj]; exact List.getElem_mem hj)))
      have hln := sgn_length A s
      have hnx0 : nxtR (sgn A s) c ((sgn A s).length - (sgn A s).length) = none := nxtR_stop
      obtain ⟨TK, hTK⟩ : ∃ TK, takR A = TK := ⟨_, rfl⟩
      rw [hTK] at hat HTK
      obtain ⟨NX, hNX⟩ : ∃ NX, nxtR (sgn A s) c = NX := ⟨_, rfl⟩
      rw [hNX] at hat hnx0
      obtain ⟨S, hS⟩ : ∃ S, meetS A s p c k = S := ⟨_, rfl⟩
      rw [hS] at h1 hlm
      obtain ⟨M, hM⟩ : ∃ M, metL A (sgn A s) p c k = M := ⟨_, rfl⟩
      rw [hM] at hlm hat hml
      obtain ⟨X, hX⟩ : ∃ X, ltr A s = X := ⟨_, rfl⟩
      rw [hX] at hlw hat HHS HTK HNZ hln hml h64
      obtain ⟨L, hL⟩ : ∃ L, sgn A s = L := ⟨_, rfl⟩
      rw [hL] at hat HHS HTK hln hnx0
      obtain ⟨Y, hY⟩ : ∃ Y, X.length = Y := ⟨_, rfl⟩
      rw [hY] at hln hml h64 HNZ
      rw [hY] at hlw
      rw [hml] at hlm
      rw [hln] at hat hnx0
      have HAT := Lib.hid hat
      have HLN := Lib.hid hln
      have HLW := Lib.hid hlw
      have HLM := Lib.hid hlm
      have H1 := Lib.hid h1
      have HML := Lib.hid hml
      have HYY := Lib.hid hY
      have HN0 := Lib.hid hnx0
      clear h0 h1 hl hl0 hm0 hok hin q1 q2 hSs hSL hlw hlm e1 e2 e3 e4 hFA hmy hat hln hml hnx0 hTK hNX hS hM hX hL hY
      go_enter Tryd.func7, Tryd.ntmps7
      go_wp2_with fail
      refine HAL.out.mono ?_
      rintro e w1 ⟨rfl, hx1⟩
      obtain ⟨d0, d1, l0⟩ := HBX.out _ hx1
      go_wp2_with fail
      refine (H1.out _ (hx0.trans hx1)).mono ?_
      rintro e w2 ⟨rfl, hx2⟩
      have hx2 := hx1.trans hx2
      obtain ⟨d0, d1, l0⟩ := HBX.out _ hx2
      go_wp2_with fail
      refine (HLW.out _ (hx0.trans hx2)).mono ?_
      rintro e w3 ⟨xp, xc, rfl, ho3, hx3⟩
      have hR3 := ho3.at_
      have hx3 := hx2.trans hx3
      obtain ⟨d0, d1, l0⟩ := HBX.out _ hx3
      go_wp2_with fail
      refine (HLM.out _ (hx0.trans hx3)).mono ?_
      rintro e w4 ⟨yp, yc, rfl, ho4, hx4⟩
      have hR4 := ho4.at_
      have hR3 := hR3.mono hx4
      have hx4 := hx3.trans hx4
      clear ho3 ho4 d0 d1 l0
      have hxw := hx0.trans hx4
      go_wp2_with fail
      go_loopw [18, 19] (fun f i wr => ∃ r : Nat, r ≤ Y ∧ i = .int .i64 ((r : Int) - 1) ∧ f = .int .i32 (nv X (NX (Y - r))) ∧ Ext w4 wr) (fun _ i _ => (intOf i + 1).toNat)
      case atStart => exact ⟨Y, Nat.le_refl _, rfl, by rw [HN0.out]; rfl, Ext.refl _⟩
      case round =>
        obtain ⟨r, hr, rfl, rfl, hx⟩ := hrel
        cases r with
        | succ j =>
          have hlt : j < Y := by omega
          have hcast : ((j + 1 : Nat) : Int) - 1 = (j : Int) := by omega
          rw [hcast]
          clear hcast
          have hjL : j < L.length := by rw [HLN.out]; exact hlt
          have hjX : j < X.length := by rw [HYY.out]; exact hlt
          have hjM : j < M.length := by rw [HML.out]; exact hlt
          obtain ⟨bx, ox, ex, hbx, cx⟩ := (hR3.mono hx).cells hjX
          obtain ⟨by_, oy, ey, hby, cy⟩ := (hR4.mono hx).cells hjM
          subst ex
          subst ey
          obtain ⟨d0, d1, l0⟩ := HBX.out _ (hx4.trans hx)
          obtain ⟨o, ho⟩ : ∃ o, NX (Y - (j + 1)) = o := ⟨_, rfl⟩
          obtain ⟨a0, a1, a2, a3⟩ := HAT.out j hlt o ho
          rw [ho]
          have HCX := Lib.hid cx
          have hhs1 := fun b hb => HHS.out j hjL p (by simp) hp b hb
          have hhs2 := fun b hb => HHS.out j hjL c (by simp) hc b hb
          cases hC : ofB (la L j) c
          · have HH2 := Lib.hid (hhs2 _ hC)
            rw [hC, if_neg (by decide)] at a1
            have HB2 := Lib.hid a1
            cases hB : ofB (la L j) p
            · have HH1 := Lib.hid (hhs1 _ hB)
              rw [a2 (.inl hB)] at cy
              have HCY := Lib.hid cy
              obtain ⟨z, hz⟩ : ∃ z, nv X o = z := ⟨_, rfl⟩
              rw [hz]
              have HZZ := Lib.hid hz
              clear a0 a1 a2 a3 hB hC hz ho cy
              clear hhs1 hhs2 hjL hjX hjM
              go_wp2_with fail
              (refine wp_region_ext (by kernel_rfl) (by kernel_rfl) ?_; intro ι hι g hg; have q_d0 := hg.cell d0; have q_d1 := hg.cell d1; have q_cx := hg.cell cx; clear d0 d1 cx; (repeat (go_big_quiet_step ((go_at_call 25; exact hg.call (HH1.out _ (hxw.trans (hx.trans (hg.ext _)))))))); refine wpQuiet_nil ?_; rintro w8 ⟨i2, rfl⟩; have hq := hg.ext i2; generalize g i2 = w8 at hq ⊢; clear q_d0 q_d1 q_cx i2 hg g hι ι)
              have cx := (hq.facts.1 _ _ hbx).trans HCX.out
              obtain ⟨d0, d1, l0⟩ := HBX.out _ (hx4.trans (hx.trans hq))
              go_wp2_with fail
              (refine wp_region_ext (by kernel_rfl) (by kernel_rfl) ?_; intro ι hι g hg; have q_d0 := hg.cell d0; have q_d1 := hg.cell d1; have q_cx := hg.cell cx; clear d0 d1 cx; (repeat (go_big_quiet_step ((go_at_call 25; exact hg.call (HH2.out _ (hxw.trans ((hx.trans hq).trans (hg.ext _)))))))); refine wpQuiet_nil ?_; rintro w9 ⟨i2, rfl⟩; have hq9 := hg.ext i2; generalize g i2 = w9 at hq9 ⊢; clear q_d0 q_d1 q_cx i2 hg g hι ι)
              have hqq := hq.trans hq9
              have cx := (hqq.facts.1 _ _ hbx).trans HCX.out
              have cy := (hqq.facts.1 _ _ hby).trans HCY.out
              go_wp2_with fail
              (refine wp_region_ext (by kernel_rfl) (by kernel_rfl) ?_; intro ι hι g hg; have q_cx := hg.cell cx; have q_cy := hg.cell cy; clear cx cy; (repeat (go_big_quiet_step (fail))); refine wpQuiet_nil ?_; rintro w10 ⟨i2, rfl⟩; have hq10 := hg.ext i2; generalize g i2 = w10 at hq10 ⊢; clear q_cx q_cy i2 hg g hι ι)
              have hq3 := hqq.trans hq10
              have cx := (hq3.facts.1 _ _ hbx).trans HCX.out
              go_wp2_with fail
              exact ⟨⟨j, by omega, by first | rfl | go_num, by rw [HB2.out, HZZ.out], hx.trans hq3⟩, by simp [intOf]⟩
            · have HH1 := Lib.hid (hhs1 _ hB)
              cases o with
              | none =>
                rw [a2 (.inr rfl)] at cy
                have HCY := Lib.hid cy
                have hn : nv X none = 0 := rfl
                rw [hn]
                clear a0 a1 a2 a3 hB hC ho hn cy
                clear hhs1 hhs2 hjL hjX hjM
                go_wp2_with fail
                (refine wp_region_ext (by kernel_rfl) (by kernel_rfl) ?_; intro ι hι g hg; have q_d0 := hg.cell d0; have q_d1 := hg.cell d1; have q_cx := hg.cell cx; clear d0 d1 cx; (repeat (go_big_quiet_step ((go_at_call 25; exact hg.call (HH1.out _ (hxw.trans (hx.trans (hg.ext _)))))))); refine wpQuiet_nil ?_; rintro w8 ⟨i2, rfl⟩; have hq := hg.ext i2; generalize g i2 = w8 at hq ⊢; clear q_d0 q_d1 q_cx i2 hg g hι ι)
                have cx := (hq.facts.1 _ _ hbx).trans HCX.out
                obtain ⟨d0, d1, l0⟩ := HBX.out _ (hx4.trans (hx.trans hq))
                go_wp2_with fail
                (refine wp_region_ext (by kernel_rfl) (by kernel_rfl) ?_; intro ι hι g hg; have q_d0 := hg.cell d0; have q_d1 := hg.cell d1; have q_cx := hg.cell cx; clear d0 d1 cx; (repeat (go_big_quiet_step ((go_at_call 25; exact hg.call (HH2.out _ (hxw.trans ((hx.trans hq).trans (hg.ext _)))))))); refine wpQuiet_nil ?_; rintro w9 ⟨i2, rfl⟩; have hq9 := hg.ext i2; generalize g i2 = w9 at hq9 ⊢; clear q_d0 q_d1 q_cx i2 hg g hι ι)
                have hqq := hq.trans hq9
                have cx := (hqq.facts.1 _ _ hbx).trans HCX.out
                have cy := (hqq.facts.1 _ _ hby).trans HCY.out
                go_wp2_with fail
                (refine wp_region_ext (by kernel_rfl) (by kernel_rfl) ?_; intro ι hι g hg; have q_cx := hg.cell cx; have q_cy := hg.cell cy; clear cx cy; (repeat (go_big_quiet_step (fail))); refine wpQuiet_nil ?_; rintro w10 ⟨i2, rfl⟩; have hq10 := hg.ext i2; generalize g i2 = w10 at hq10 ⊢; clear q_cx q_cy i2 hg g hι ι)
                have hq3 := hqq.trans hq10
                have cx := (hq3.facts.1 _ _ hbx).trans HCX.out
                go_wp2_with fail
                exact ⟨⟨j, by omega, by first | rfl | go_num, by rw [HB2.out]; rfl, hx.trans hq3⟩, by simp [intOf]⟩
              | some q =>
                have hqY := a0 q rfl
                have hqL : q < L.length := by rw [HLN.out]; exact hqY
                rw [a3 hB q rfl] at cy
                have HT := Lib.hid (HTK.out j hjL q hqL)
                have hn : nv X (some q) = rn X q := rfl
                rw [hn]
                have gnz : ((rn X q) == 0) = false := by rw [beq_eq_false_iff_ne]; exact HNZ.out q hqY
                obtain ⟨T, hT⟩ : ∃ T, TK (la L j) (la L q) k = T := ⟨_, rfl⟩
                rw [hT] at cy HT
                have HCY := Lib.hid cy
                obtain ⟨z, hz⟩ : ∃ z, rn X q = z := ⟨_, rfl⟩
                rw [hz] at gnz HT ⊢
                have HZZ := Lib.hid hz
                clear a0 a1 a2 a3 hB hC ho hn cy hT hz
                clear hhs1 hhs2 hjL hjX hjM
                go_wp2_with fail
                (refine wp_region_ext (by kernel_rfl) (by kernel_rfl) ?_; intro ι hι g hg; have q_d0 := hg.cell d0; have q_d1 := hg.cell d1; have q_cx := hg.cell cx; clear d0 d1 cx; (repeat (go_big_quiet_step ((go_at_call 25; exact hg.call (HH1.out _ (hxw.trans (hx.trans (hg.ext _)))))))); refine wpQuiet_nil ?_; rintro w8 ⟨i2, rfl⟩; have hq := hg.ext i2; generalize g i2 = w8 at hq ⊢; clear q_d0 q_d1 q_cx i2 hg g hι ι)
                have cx := (hq.facts.1 _ _ hbx).trans HCX.out
                obtain ⟨d0, d1, l0⟩ := HBX.out _ (hx4.trans (hx.trans hq))
                go_wp2_with fail
                (refine wp_region_ext (by kernel_rfl) (by kernel_rfl) ?_; intro ι hι g hg; have q_d0 := hg.cell d0; have q_d1 := hg.cell d1; have q_cx := hg.cell cx; clear d0 d1 cx; (repeat (go_big_quiet_step ((go_at_call 25; exact hg.call (HH2.out _ (hxw.trans ((hx.trans hq).trans (hg.ext _)))))))); refine wpQuiet_nil ?_; rintro w9 ⟨i2, rfl⟩; have hq9 := hg.ext i2; generalize g i2 = w9 at hq9 ⊢; clear q_d0 q_d1 q_cx i2 hg g hι ι)
                have hqq := hq.trans hq9
                have cx := (hqq.facts.1 _ _ hbx).trans HCX.out
                have cy := (hqq.facts.1 _ _ hby).trans HCY.out
                obtain ⟨d0, d1, l0⟩ := HBX.out _ (hx4.trans (hx.trans hqq))
                go_wp2_with fail
                (refine wp_region_ext (by kernel_rfl) (by kernel_rfl) ?_; intro ι hι g hg; have q_d0 := hg.cell d0; have q_d1 := hg.cell d1; have q_cx := hg.cell cx; have q_cy := hg.cell cy; clear d0 d1 cx cy; (repeat (go_big_quiet_step ((go_at_call 26; exact hg.call (HT.out _ (hxw.trans ((hx.trans hqq).trans (hg.ext _)))))))); refine wpQuiet_nil ?_; rintro w10 ⟨i2, rfl⟩; have hq10 := hg.ext i2; generalize g i2 = w10 at hq10 ⊢; clear q_d0 q_d1 q_cx q_cy i2 hg g hι ι)
                have hq3 := hqq.trans hq10
                have cx := (hq3.facts.1 _ _ hbx).trans HCX.out
                go_wp2_with fail
                exact ⟨⟨j, by omega, by first | rfl | go_num, by rw [HB2.out]; show _ = Value.int .i32 (rn X q); rw [HZZ.out], hx.trans hq3⟩, by simp [intOf]⟩
          · have HH2 := Lib.hid (hhs2 _ hC)
            rw [hC, if_pos rfl] at a1
            have HB2 := Lib.hid a1
            cases hB : ofB (la L j) p
            · have HH1 := Lib.hid (hhs1 _ hB)
              rw [a2 (.inl hB)] at cy
              have HCY := Lib.hid cy
              obtain ⟨z, hz⟩ : ∃ z, nv X o = z := ⟨_, rfl⟩
              rw [hz]
              have HZZ := Lib.hid hz
              clear a0 a1 a2 a3 hB hC hz ho cy
              clear hhs1 hhs2 hjL hjX hjM
              go_wp2_with fail
              (refine wp_region_ext (by kernel_rfl) (by kernel_rfl) ?_; intro ι hι g hg; have q_d0 := hg.cell d0; have q_d1 := hg.cell d1; have q_cx := hg.cell cx; clear d0 d1 cx; (repeat (go_big_quiet_step ((go_at_call 25; exact hg.call (HH1.out _ (hxw.trans (hx.trans (hg.ext _)))))))); refine wpQuiet_nil ?_; rintro w8 ⟨i2, rfl⟩; have hq := hg.ext i2; generalize g i2 = w8 at hq ⊢; clear q_d0 q_d1 q_cx i2 hg g hι ι)
              have cx := (hq.facts.1 _ _ hbx).trans HCX.out
              obtain ⟨d0, d1, l0⟩ := HBX.out _ (hx4.trans (hx.trans hq))
              go_wp2_with fail
              (refine wp_region_ext (by kernel_rfl) (by kernel_rfl) ?_; intro ι hι g hg; have q_d0 := hg.cell d0; have q_d1 := hg.cell d1; have q_cx := hg.cell cx; clear d0 d1 cx; (repeat (go_big_quiet_step ((go_at_call 25; exact hg.call (HH2.out _ (hxw.trans ((hx.trans hq).trans (hg.ext _)))))))); refine wpQuiet_nil ?_; rintro w9 ⟨i2, rfl⟩; have hq9 := hg.ext i2; generalize g i2 = w9 at hq9 ⊢; clear q_d0 q_d1 q_cx i2 hg g hι ι)
              have hqq := hq.trans hq9
              have cx := (hqq.facts.1 _ _ hbx).trans HCX.out
              have cy := (hqq.facts.1 _ _ hby).trans HCY.out
              go_wp2_with fail
              (refine wp_region_ext (by kernel_rfl) (by kernel_rfl) ?_; intro ι hι g hg; have q_cx := hg.cell cx; have q_cy := hg.cell cy; clear cx cy; (repeat (go_big_quiet_step (fail))); refine wpQuiet_nil ?_; rintro w10 ⟨i2, rfl⟩; have hq10 := hg.ext i2; generalize g i2 = w10 at hq10 ⊢; clear q_cx q_cy i2 hg g hι ι)
              have hq3 := hqq.trans hq10
              have cx := (hq3.facts.1 _ _ hbx).trans HCX.out
              go_wp2_with fail
              exact ⟨⟨j, by omega, by first | rfl | go_num, by rw [HB2.out]; rfl, hx.trans hq3⟩, by simp [intOf]⟩
            · have HH1 := Lib.hid (hhs1 _ hB)
              cases o with
              | none =>
                rw [a2 (.inr rfl)] at cy
                have HCY := Lib.hid cy
                have hn : nv X none = 0 := rfl
                rw [hn]
                clear a0 a1 a2 a3 hB hC ho hn cy
                clear hhs1 hhs2 hjL hjX hjM
                go_wp2_with fail
                (refine wp_region_ext (by kernel_rfl) (by kernel_rfl) ?_; intro ι hι g hg; have q_d0 := hg.cell d0; have q_d1 := hg.cell d1; have q_cx := hg.cell cx; clear d0 d1 cx; (repeat (go_big_quiet_step ((go_at_call 25; exact hg.call (HH1.out _ (hxw.trans (hx.trans (hg.ext _)))))))); refine wpQuiet_nil ?_; rintro w8 ⟨i2, rfl⟩; have hq := hg.ext i2; generalize g i2 = w8 at hq ⊢; clear q_d0 q_d1 q_cx i2 hg g hι ι)
                have cx := (hq.facts.1 _ _ hbx).trans HCX.out
                obtain ⟨d0, d1, l0⟩ := HBX.out _ (hx4.trans (hx.trans hq))
                go_wp2_with fail
                (refine wp_region_ext (by kernel_rfl) (by kernel_rfl) ?_; intro ι hι g hg; have q_d0 := hg.cell d0; have q_d1 := hg.cell d1; have q_cx := hg.cell cx; clear d0 d1 cx; (repeat (go_big_quiet_step ((go_at_call 25; exact hg.call (HH2.out _ (hxw.trans ((hx.trans hq).trans (hg.ext _)))))))); refine wpQuiet_nil ?_; rintro w9 ⟨i2, rfl⟩; have hq9 := hg.ext i2; generalize g i2 = w9 at hq9 ⊢; clear q_d0 q_d1 q_cx i2 hg g hι ι)
                have hqq := hq.trans hq9
                have cx := (hqq.facts.1 _ _ hbx).trans HCX.out
                have cy := (hqq.facts.1 _ _ hby).trans HCY.out
                go_wp2_with fail
                (refine wp_region_ext (by kernel_rfl) (by kernel_rfl) ?_; intro ι hι g hg; have q_cx := hg.cell cx; have q_cy := hg.cell cy; clear cx cy; (repeat (go_big_quiet_step (fail))); refine wpQuiet_nil ?_; rintro w10 ⟨i2, rfl⟩; have hq10 := hg.ext i2; generalize g i2 = w10 at hq10 ⊢; clear q_cx q_cy i2 hg g hι ι)
                have hq3 := hqq.trans hq10
                have cx := (hq3.facts.1 _ _ hbx).trans HCX.out
                go_wp2_with fail
                exact ⟨⟨j, by omega, by first | rfl | go_num, by rw [HB2.out]; rfl, hx.trans hq3⟩, by simp [intOf]⟩
              | some q =>
                have hqY := a0 q rfl
                have hqL : q < L.length := by rw [HLN.out]; exact hqY
                rw [a3 hB q rfl] at cy
                have HT := Lib.hid (HTK.out j hjL q hqL)
                have hn : nv X (some q) = rn X q := rfl
                rw [hn]
                have gnz : ((rn X q) == 0) = false := by rw [beq_eq_false_iff_ne]; exact HNZ.out q hqY
                obtain ⟨T, hT⟩ : ∃ T, TK (la L j) (la L q) k = T := ⟨_, rfl⟩
                rw [hT] at cy HT
                have HCY := Lib.hid cy
                obtain ⟨z, hz⟩ : ∃ z, rn X q = z := ⟨_, rfl⟩
                rw [hz] at gnz HT ⊢
                have HZZ := Lib.hid hz
                clear a0 a1 a2 a3 hB hC ho hn cy hT hz
                clear hhs1 hhs2 hjL hjX hjM
                go_wp2_with fail
                (refine wp_region_ext (by kernel_rfl) (by kernel_rfl) ?_; intro ι hι g hg; have q_d0 := hg.cell d0; have q_d1 := hg.cell d1; have q_cx := hg.cell cx; clear d0 d1 cx; (repeat (go_big_quiet_step ((go_at_call 25; exact hg.call (HH1.out _ (hxw.trans (hx.trans (hg.ext _)))))))); refine wpQuiet_nil ?_; rintro w8 ⟨i2, rfl⟩; have hq := hg.ext i2; generalize g i2 = w8 at hq ⊢; clear q_d0 q_d1 q_cx i2 hg g hι ι)
                have cx := (hq.facts.1 _ _ hbx).trans HCX.out
                obtain ⟨d0, d1, l0⟩ := HBX.out _ (hx4.trans (hx.trans hq))
                go_wp2_with fail
                (refine wp_region_ext (by kernel_rfl) (by kernel_rfl) ?_; intro ι hι g hg; have q_d0 := hg.cell d0; have q_d1 := hg.cell d1; have q_cx := hg.cell cx; clear d0 d1 cx; (repeat (go_big_quiet_step ((go_at_call 25; exact hg.call (HH2.out _ (hxw.trans ((hx.trans hq).trans (hg.ext _)))))))); refine wpQuiet_nil ?_; rintro w9 ⟨i2, rfl⟩; have hq9 := hg.ext i2; generalize g i2 = w9 at hq9 ⊢; clear q_d0 q_d1 q_cx i2 hg g hι ι)
                have hqq := hq.trans hq9
                have cx := (hqq.facts.1 _ _ hbx).trans HCX.out
                have cy := (hqq.facts.1 _ _ hby).trans HCY.out
                obtain ⟨d0, d1, l0⟩ := HBX.out _ (hx4.trans (hx.trans hqq))
                go_wp2_with fail
                (refine wp_region_ext (by kernel_rfl) (by kernel_rfl) ?_; intro ι hι g hg; have q_d0 := hg.cell d0; have q_d1 := hg.cell d1; have q_cx := hg.cell cx; have q_cy := hg.cell cy; clear d0 d1 cx cy; (repeat (go_big_quiet_step ((go_at_call 26; exact hg.call (HT.out _ (hxw.trans ((hx.trans hqq).trans (hg.ext _)))))))); refine wpQuiet_nil ?_; rintro w10 ⟨i2, rfl⟩; have hq10 := hg.ext i2; generalize g i2 = w10 at hq10 ⊢; clear q_d0 q_d1 q_cx q_cy i2 hg g hι ι)
                have hq3 := hqq.trans hq10
                have cx := (hq3.facts.1 _ _ hbx).trans HCX.out
                go_wp2_with fail
                exact ⟨⟨j, by omega, by first | rfl | go_num, by rw [HB2.out]; rfl, hx.trans hq3⟩, by simp [intOf]⟩
        | zero =>
          have hcast : ((0 : Nat) : Int) - 1 = -1 := rfl
          rw [hcast]
          clear hcast
          obtain ⟨z, hz⟩ : ∃ z, nv X (NX (Y - 0)) = z := ⟨_, rfl⟩
          rw [hz]
          clear hz
          go_wp2_with fail
          go_ret
          exact ⟨rfl, hxw.trans hx⟩
    · rw [show meetS A s p c k = ⟨#[]⟩ from if_neg h0] at h1
      have gE : (signE A s [p, c, k] != 0) = true := by rw [bne_iff_ne]; exact h0
      obtain ⟨E, hE⟩ : ∃ E, signE A s [p, c, k] = E := ⟨_, rfl⟩
      rw [hE] at h1 gE
      have H1 := Lib.hid h1
      clear h0 h1 hE hl
      go_enter Tryd.func7, Tryd.ntmps7
      go_wp2_with fail
      refine HAL.out.mono ?_
      rintro e w1 ⟨rfl, hx1⟩
      obtain ⟨d0, d1, l0⟩ := HBX.out _ hx1
      go_wp2_with fail
      refine (H1.out _ (hx0.trans hx1)).mono ?_
      rintro e w2 ⟨rfl, hx2⟩
      go_wp2_with fail
      go_ret
      exact ⟨rfl, (hx0.trans hx1).trans hx2⟩

end Go.Proofs.YtcnjgfadihimiaaDoor
