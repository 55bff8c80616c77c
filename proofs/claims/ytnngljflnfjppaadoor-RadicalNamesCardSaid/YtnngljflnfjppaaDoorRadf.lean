/- Contracts: cognateref13.Skip, cognatelaw13.long; the law RadicalWords, walked. -/
import Derived.Test.YtnngljflnfjppaaDoorRadd
import Derived.Test.YtnngljflnfjppaaDoorRade
namespace Go.Proofs.YtnngljflnfjppaaDoor
open Go.RowKit Go.Cg Go.Shelf Go.Maps

set_option maxRecDepth 100000 in
set_option maxHeartbeats 2000000 in
theorem Skip13_any (fp lp : Option Addr) (fc lc : Nat) (A : Alpha) (r s : ByteArray) (hr : r.size ≤ 140737488351232) (hs : s.size ≤ 140737488351232) (w : World) (hA : AlphaAt w fp lp A) (hT : Tabs w) :
    Calls Tryd.prog 18 #[.agg #[.slice fp A.feats.length fc, .slice lp A.lets.length lc], .string r, .string s] w fun e w' => ∃ rp rc, e = .returned (.tuple #[.slice rp (skL A r s).length rc, .bool (skB A r s), .int .i64 (skE A r s)]) ∧ w'.ownsRow w.heap.size 3 1 (.slice rp (skL A r s).length rc) (skL A r s).length (intCells (skL A r s)) ∧ Ext w w' := by
  have hx3 : Ext w (w.alloc (.cells #[.slice fp A.feats.length fc, .slice lp A.lets.length lc] 26)) := (Ext.refl _).alloc _
  obtain ⟨i0, hi, hz0, hz1, hz2⟩ := info_parts infoI
  have hcon := Letters_any fp lp fc lc A r hr _ (hA.mono hx3) (hT.ext hx3)
  have hco2 := fun W hW => Letters_any fp lp fc lc A s hs W (hA.mono hW) (hT.ext hW)
  have HC2 := Lib.hid hco2
  clear hco2
  have h64 := spell_len A s
  have h65 := spell_len A r
  have hfe := skE_eq A r s
  have hfb := skB_eq A r s
  have hfl := skL_eq A r s
  obtain ⟨F, hF⟩ : ∃ F, skE A r s = F := ⟨_, rfl⟩
  obtain ⟨B, hB⟩ : ∃ B, skB A r s = B := ⟨_, rfl⟩
  obtain ⟨L, hL⟩ : ∃ L, skL A r s = L := ⟨_, rfl⟩
  rw [hF] at hfe hfb
  rw [hB] at hfb hfl
  rw [hL] at hfl
  rw [hF, hB, hL]
  clear hF hB hL
  obtain ⟨l, hl⟩ : ∃ l, (spell A r).1 = l := ⟨_, rfl⟩
  obtain ⟨er, her⟩ : ∃ er, (spell A r).2 = er := ⟨_, rfl⟩
  obtain ⟨x, hl2⟩ : ∃ x, (spell A s).1 = x := ⟨_, rfl⟩
  obtain ⟨es, her2⟩ : ∃ es, (spell A s).2 = es := ⟨_, rfl⟩
  rw [hl, her] at hcon
  rw [hl2, her2] at HC2
  rw [her, her2] at hfe
  rw [hl, hl2] at hfb hfl
  rw [hl2] at h64
  rw [hl] at h65
  clear hl her hl2 her2
  by_cases h0 : er = 0
  · subst h0
    rw [if_neg (by decide : ¬ ((0 : Int) ≠ 0))] at hfe
    subst hfe
    by_cases hc0 : F = 0
    · subst hc0
      rw [decide_eq_true rfl, Bool.true_and] at hfb
      have HFB := Lib.hid hfb
      have HFL := Lib.hid hfl
      clear hfb hfl
      go_enter Tryd.func18, Tryd.ntmps18
      go_wp2_with (first | (go_at_call 49; refine hcon.mono ?_; rintro e w1 ⟨lrp, lrc, rfl, ho, hx1⟩; have d0 := hx1.cell0 0; have d1 := hx1.cell0 1; simp at d0 d1; clear hcon) | (go_at_call 49; refine (HC2.out _ (hx3.trans hx1)).mono ?_; rintro e w2 ⟨xrp, xrc, rfl, hox, hx2⟩))
      clear d0 d1
      have hxw := (hx3.trans hx1).trans hx2
      go_loopw [12, 13, 14] (fun out at_ i wr => ∃ a n : Nat, a ≤ x.length ∧ at_ = .int .i64 a ∧ n = (skipTo l x a).length ∧ i = .int .i64 n ∧ Ext w2 wr ∧ wr.ownsRow w2.heap.size 3 1 out n (intCells (skipTo l x a))) (fun _ _ i _ => l.length - (intOf i).toNat)
      case atStart => exact ⟨0, 0, Nat.zero_le _, rfl, rfl, rfl, Ext.refl _, World.ownsRow_nil _ _ _ _⟩
      case round =>
        obtain ⟨a, n, ha, rfl, hn0, rfl, hx, hown⟩ := hrel
        have hn1 := (skipTo_len l x a).1
        have hn2 := (skipTo_len l x a).2
        rw [← hn0] at hn1 hn2
        have HN := Lib.hid hn0
        clear hn0
        obtain ⟨rp, rc, rfl⟩ := ownsRow_slice hown
        by_cases hlt : n < l.length
        · obtain ⟨b2, off2, e0, hbw2, c2⟩ := (ho.at_.mono (hx2.trans hx)).cells hlt
          subst e0
          obtain ⟨wn, rfl⟩ : ∃ wn : World, wn = wr := ⟨_, rfl⟩
          go_wp2_with fail
          go_loopw [13] (fun at_ wr => ∃ c : Nat, a ≤ c ∧ c ≤ x.length ∧ at_ = .int .i64 c ∧ Hid (skipTo l x c = skipTo l x a) ∧ Ext wn wr) (fun at_ _ => x.length - (intOf at_).toNat)
          case atStart => exact ⟨a, Nat.le_refl _, ha, rfl, rfl, Ext.refl _⟩
          case round =>
            obtain ⟨c, hac, hcx, rfl, HC, hy⟩ := hrel
            by_cases hcl : c < x.length
            · obtain ⟨b, off, e0, hbw, c0⟩ := (hox.at_.mono (hx.trans hy)).cells hcl
              subst e0
              have d2 := (hy.facts.1 b2 (off2 + n) hbw2).trans c2
              have hb2 : b2 < wr.heap.size := Nat.lt_of_lt_of_le hbw2 hy.le
              have g1 : decide ((c : Int) < x.length) = true := decide_eq_true (by omega)
              cases he : (rn x c != rn l n)
              · have hst : skipTo l x (c + 1) = skipTo l x a ++ [c] := by
                  have e1 := HN.out
                  have e2 := HC.out
                  rw [skipTo_yes (by rw [e2]; omega) (by rw [e2, ← e1]; simpa using Eq.symm (by simpa using he : rn x c = rn l n)), e2]
                have HS := Lib.hid hst
                clear hst
                have g2 : ((c : Int) == x.length) = false := by rw [beq_eq_false_iff_ne]; omega
                go_wp2_with fail
                (refine wp_region_ext (by kernel_rfl) (by kernel_rfl) ?_; intro ι hι g hg; have q_c0 := hg.cell c0; have q_d2 := hg.cell d2; clear c0 d2; (repeat (go_big_quiet_step (fail))); refine wpQuiet_nil ?_; rintro w5 ⟨i2, rfl⟩; have hq := hg.ext i2; generalize g i2 = w5 at hq ⊢; clear q_c0 q_d2 i2 hg g hι ι)
                have hown5 := ownsRow_ext (ownsRow_ext hown hy) hq
                go_wp2_with (at_builtin; go_loud (refine wpList_append_own _ rfl _ _ 44 rfl w2.heap.size 3 i0 (.int .i64 0) 1 8 Tryd.underlying44 hi hz0 hz1 hz2 rfl (by decide) _ _ _ rfl (hown5.alloc _) ⟨w5.heap.size, 0, none⟩ 1 1 [.int .i64 c] rfl rfl (one_cell _ _ _) (by simp [Value.oneCell']) (by unfold maxLen; omega) (by omega) (by simp; have := hx.le; have := hy.le; have := hq.le; omega) ?_); intro v' w4 hown4 hgrow _)
                refine ⟨⟨c + 1, n + 1, by omega, by go_num, ?_, by go_num, Ext.append (((hx.trans hy).trans hq).alloc _) (hown5.alloc _) hgrow (Nat.le_refl _), ?_⟩, by simp [intOf]; omega⟩
                · rw [HS.out, List.length_append, ← HN.out]; rfl
                · rw [HS.out, intCells_append]; exact hown4
              · have HS := Lib.hid (skipTo_no (l := l) (x := x) (k := c) (by rw [HC.out, ← HN.out]; exact fun h => (by simpa using he : rn x c ≠ rn l n) h.symm))
                go_wp2_with fail
                (refine wp_region_ext (by kernel_rfl) (by kernel_rfl) ?_; intro ι hι g hg; have q_c0 := hg.cell c0; have q_d2 := hg.cell d2; clear c0 d2; (repeat (go_big_quiet_step (fail))); refine wpQuiet_nil ?_; rintro w5 ⟨i2, rfl⟩; have hq := hg.ext i2; generalize g i2 = w5 at hq ⊢; clear q_c0 q_d2 i2 hg g hι ι)
                go_wp2_with fail
                exact ⟨⟨c + 1, by omega, by omega, by go_num, HS.out.trans HC.out, hy.trans hq⟩, by simp [intOf]; omega⟩
            · have e : c = x.length := by omega
              subst e
              have g1 : decide ((x.length : Int) < x.length) = false := decide_eq_false (by omega)
              have hno : ¬ (skipTo l x x.length).length = l.length := by rw [HC.out, ← HN.out]; omega
              have hfb := HFB.out
              have hfl := HFL.out
              rw [decide_eq_false hno] at hfb
              subst hfb
              rw [if_neg (by decide)] at hfl
              subst hfl
              go_wp2_with fail
              (refine wp_region_ext (by kernel_rfl) (by kernel_rfl) ?_; intro ι hι g hg; (repeat (go_big_quiet_step (fail))); refine wpQuiet_nil ?_; rintro w5 ⟨i2, rfl⟩; have hq := hg.ext i2; generalize g i2 = w5 at hq ⊢; clear  i2 hg g hι ι)
              go_wp2_with fail
              go_ret3
              exact ⟨none, 0, rfl, World.ownsRow_nil _ _ _ _, ((hxw.trans hx).trans hy).trans hq⟩
        · have e : n = l.length := by omega
          subst e
          have hst := skipTo_stay HN.out.symm (x.length - a)
          rw [show a + (x.length - a) = x.length by omega] at hst
          have hfull : (skipTo l x x.length).length = l.length := by rw [hst]; exact HN.out.symm
          have hfb := HFB.out
          have hfl := HFL.out
          rw [decide_eq_true hfull] at hfb
          subst hfb
          rw [if_pos rfl, hst] at hfl
          subst hfl
          go_wp2_with fail
          go_ret3
          refine ⟨rp, rc, by rw [← HN.out]; first | done | rfl, ?_, hxw.trans hx⟩
          rw [← HN.out]
          exact ownsRow_base hown hxw.le
    · rw [decide_eq_false hc0, Bool.false_and] at hfb
      subst hfb
      rw [if_neg (by decide)] at hfl
      subst hfl
      have hn : (F != 0) = true := by rw [bne_iff_ne]; exact hc0
      go_enter Tryd.func18, Tryd.ntmps18
      go_wp2_with (first | (go_at_call 49; refine hcon.mono ?_; rintro e w1 ⟨lrp, lrc, rfl, ho, hx1⟩; have d0 := hx1.cell0 0; have d1 := hx1.cell0 1; simp at d0 d1; clear hcon) | (go_at_call 49; refine (HC2.out _ (hx3.trans hx1)).mono ?_; rintro e w2 ⟨xrp, xrc, rfl, hox, hx2⟩))
      go_ret3
      exact ⟨none, 0, rfl, World.ownsRow_nil _ _ _ _, (hx3.trans hx1).trans hx2⟩
  · have hn : (er != 0) = true := by rw [bne_iff_ne]; exact h0
    rw [if_pos h0] at hfe
    subst hfe
    rw [decide_eq_false h0, Bool.false_and] at hfb
    subst hfb
    rw [if_neg (by decide)] at hfl
    subst hfl
    go_enter Tryd.func18, Tryd.ntmps18
    go_wp2_with (go_at_call 49; refine hcon.mono ?_; rintro e w1 ⟨lrp, lrc, rfl, ho, hx1⟩)
    go_ret3
    exact ⟨none, 0, rfl, World.ownsRow_nil _ _ _ _, hx3.trans hx1⟩

/-- some bool is returned -/
def SomeBool (e : Ending) : Prop := ∃ B, e = .returned (.bool B)
set_option maxHeartbeats 1000000 in
theorem long13_any (fp lp p : Option Addr) (fc lc n c : Nat) (A : Alpha) (s : ByteArray) (hn : n ≤ 140737488351232) (hs : s.size ≤ 140737488351232) (w : World) (hA : AlphaAt w fp lp A) :
    Calls Tryd.prog 12 #[.agg #[.slice fp A.feats.length fc, .slice lp A.lets.length lc], .string s, .slice p n c] w fun e w' => SomeBool e ∧ Ext w w' := by
  have hfb := hA.fbig
  have hb := hA.lbig
  go_enter Tryd.func12, Tryd.ntmps12
  go_wp2
  all_goals go_ret
  all_goals exact ⟨⟨_, rfl⟩, (Ext.refl _).alloc _⟩

set_option maxRecDepth 100000 in
set_option maxHeartbeats 4000000 in
theorem radicalWords_any (fp lp : Option Addr) (fc lc : Nat) (A : Alpha) (r : ByteArray) (hr : r.size ≤ 140737488351232) (s : ByteArray) (hs : s.size ≤ 140737488351232) (p : Nat) (hp : p < 4294967296) (w : World) (hA : AlphaAt w fp lp A) (hT : Tabs w) :
    Calls Tryd.prog 4 #[.agg #[.slice fp A.feats.length fc, .slice lp A.lets.length lc], .string r, .string s, .int .u32 p] w fun e w' => e = .returned (.bool true) ∧ Ext w w' := by
  have hx3 : Ext w (w.alloc (.cells #[.slice fp A.feats.length fc, .slice lp A.lets.length lc] 26)) := (Ext.refl _).alloc _
  have hlg := long13_any fp lp none fc lc 0 0 A r (by decide) hr _ (hA.mono hx3)
  have hR := fun W hW => radicals_any fp lp fc lc A s p hs hp W (hA.mono hW) (hT.ext hW)
  have hR2 := fun W hW => Radicals13_any fp lp fc lc A s p hs hp W (hA.mono hW) (hT.ext hW)
  have hS := fun W hW => shape_any fp lp fc lc A s p hs hp W (hA.mono hW) (hT.ext hW)
  have hS2 := fun W hW => Shape13_any fp lp fc lc A s p hs hp W (hA.mono hW) (hT.ext hW)
  have hK := fun W hW => skip_any fp lp fc lc A r s hr hs W (hA.mono hW) (hT.ext hW)
  have hK2 := fun W hW => Skip13_any fp lp fc lc A r s hr hs W (hA.mono hW) (hT.ext hW)
  have hkl : (skL A r s).length ≤ 100000 := by
    unfold skL; split
    · have := (skipTo_len (spell A r).1 (spell A s).1 (spell A s).1.length).2
      have := spell_len A r
      omega
    · simp
  obtain ⟨RE, hRE⟩ : ∃ v, radE A s p = v := ⟨_, rfl⟩
  obtain ⟨RS, hRS⟩ : ∃ v, radS A s p = v := ⟨_, rfl⟩
  obtain ⟨SS, hSS⟩ : ∃ v, shapeS A s p = v := ⟨_, rfl⟩
  obtain ⟨KE, hKE⟩ : ∃ v, skE A r s = v := ⟨_, rfl⟩
  obtain ⟨KB, hKB⟩ : ∃ v, skB A r s = v := ⟨_, rfl⟩
  obtain ⟨KL, hKL⟩ : ∃ v, skL A r s = v := ⟨_, rfl⟩
  rw [hRE, hRS] at hR hR2
  rw [hRE, hSS] at hS hS2
  rw [hKE, hKB, hKL] at hK hK2
  rw [hKL] at hkl
  clear hRE hRS hSS hKE hKB hKL
  have HR := Lib.hid hR
  have HR2 := Lib.hid hR2
  have HS := Lib.hid hS
  have HS2 := Lib.hid hS2
  have HK := Lib.hid hK
  have HK2 := Lib.hid hK2
  clear hR hR2 hS hS2 hK hK2
  go_enter Tryd.func4, Tryd.ntmps4
  go_wp2_with (go_at_call 12; refine hlg.mono ?_; rintro e w1 ⟨⟨B, rfl⟩, hx1⟩; have hy1 := hx3.trans hx1; have d0 := hx1.cell0 0; have d1 := hx1.cell0 1; have l1 := hx1.lt0; simp at d0 d1; cases B)
  all_goals (try (go_ret; exact ⟨rfl, hy1⟩))
  refine (HR.out _ hy1).mono ?_
  clear d0 d1 l1
  rintro e w2 ⟨rfl, hx2⟩
  have hz2 : Ext (w.alloc (.cells #[.slice fp A.feats.length fc, .slice lp A.lets.length lc] 26)) w2 := hx1.trans hx2
  have hy2 : Ext w w2 := hx3.trans hz2
  have d0 := hz2.cell0 0
  have d1 := hz2.cell0 1
  have l1 := hz2.lt0
  simp at d0 d1
  go_wp2_with fail
  refine (HR2.out _ hy2).mono ?_
  clear d0 d1 l1
  rintro e w3 ⟨rfl, hxc⟩
  have hz3 : Ext (w.alloc (.cells #[.slice fp A.feats.length fc, .slice lp A.lets.length lc] 26)) w3 := hz2.trans hxc
  have hy3 : Ext w w3 := hx3.trans hz3
  have d0 := hz3.cell0 0
  have d1 := hz3.cell0 1
  have l1 := hz3.lt0
  simp at d0 d1
  go_wp2_with fail
  refine (HS.out _ hy3).mono ?_
  clear d0 d1 l1
  rintro e w4 ⟨rfl, hx4⟩
  have hz4 : Ext (w.alloc (.cells #[.slice fp A.feats.length fc, .slice lp A.lets.length lc] 26)) w4 := hz3.trans hx4
  have hy4 : Ext w w4 := hx3.trans hz4
  have d0 := hz4.cell0 0
  have d1 := hz4.cell0 1
  have l1 := hz4.lt0
  simp at d0 d1
  go_wp2_with fail
  refine (HS2.out _ (hy4.alloc _)).mono ?_
  clear d0 d1 l1
  rintro e w5 ⟨rfl, hx5⟩
  have hz5 : Ext (w.alloc (.cells #[.slice fp A.feats.length fc, .slice lp A.lets.length lc] 26)) w5 := (hz4.alloc _).trans hx5
  have hy5 : Ext w w5 := hx3.trans hz5
  have d0 := hz5.cell0 0
  have d1 := hz5.cell0 1
  have l1 := hz5.lt0
  simp at d0 d1
  go_wp2_with fail
  refine (HK.out _ (hy5.alloc _)).mono ?_
  clear d0 d1 l1
  rintro e w6 ⟨kp, kc, rfl, hk1, hx6⟩
  have hz6 : Ext (w.alloc (.cells #[.slice fp A.feats.length fc, .slice lp A.lets.length lc] 26)) w6 := (hz5.alloc _).trans hx6
  have hy6 : Ext w w6 := hx3.trans hz6
  have d0 := hz6.cell0 0
  have d1 := hz6.cell0 1
  have l1 := hz6.lt0
  simp at d0 d1
  go_wp2_with fail
  refine (HK2.out _ hy6).mono ?_
  clear d0 d1 l1
  rintro e w7 ⟨kp2, kc2, rfl, hk2, hx7⟩
  have hz7 : Ext (w.alloc (.cells #[.slice fp A.feats.length fc, .slice lp A.lets.length lc] 26)) w7 := hz6.trans hx7
  have hy7 : Ext w w7 := hx3.trans hz7
  have d0 := hz7.cell0 0
  have d1 := hz7.cell0 1
  have l1 := hz7.lt0
  simp at d0 d1
  have hs1 : Ext (w4.alloc (.cells #[.string ⟨#[]⟩, .string SS] 41)) w7 := ((hx5.alloc _).trans hx6).trans hx7
  have hs2 : Ext (w5.alloc (.cells #[.string ⟨#[]⟩, .string SS] 41)) w7 := hx6.trans hx7
  have e0 := hs1.cell0 0
  have e1 := hs1.cell0 1
  have e2 := hs1.lt0
  have f0 := hs2.cell0 0
  have f1 := hs2.cell0 1
  have f2 := hs2.lt0
  simp at e0 e1 f0 f1
  have hr1 := ownsRow_reads (ownsRow_ext hk1 hx7) (f := fun j => .int .i64 ((nth KL j : Nat) : Int)) (fun j hj => intCells_at (by omega))
  have hr2 := ownsRow_reads hk2 (f := fun j => .int .i64 ((nth KL j : Nat) : Int)) (fun j hj => intCells_at (by omega))
  rw [Nat.mul_one] at hr1 hr2
  clear hk1 hk2 hx4 hx5 hx6 hx7 hxc hx2 hx1 HR HR2 HS HS2 HK HK2 d0 d1 l1
  have HSI := Lib.hid (fun W (hW : Ext w7 W) => SameInts_any kp kp2 kc kc2 KL KL hkl W (hr1.mono hW) (hr2.mono hW) rfl)
  clear hr1 hr2
  go_wp2_with fail
  refine (HSI.out _ (Ext.refl _)).mono ?_
  rintro e w8 ⟨rfl, hx8⟩
  go_wp2_with fail
  go_ret
  exact ⟨rfl, hy7.trans hx8⟩

end Go.Proofs.YtnngljflnfjppaaDoor
