/- Contracts: cognatetop.long, cognatetop.singles. -/
import Derived.Test.YtcnhlogkhnoacaaGreatDoorTpba
namespace Go.Proofs.YtcnhlogkhnoacaaGreatDoor
open Go.RowKit Go.Cg Go.Shelf Go.Maps

theorem ldB_bits (b : UInt8) : (bits BinOp.and IntKind.u8 (b.toNat : Int) 192 != 128) = ldB b := by
  have hb := b.toNat_lt
  rw [Lib.runeStart_of _ (by omega) (by omega)]
  unfold Lib.runeStart ldB
  by_cases h : 128 ≤ b.toNat ∧ b.toNat < 192
  · rw [decide_eq_true h]
    have : (b.toNat : Int) / 64 = 2 := by omega
    rw [this]; rfl
  · rw [decide_eq_false h]
    have : (b.toNat : Int) / 64 ≠ 2 := by omega
    simpa using this

set_option maxRecDepth 100000 in
set_option maxHeartbeats 1000000 in
theorem tlong_any (s : ByteArray) (hs : s.size ≤ 140737488351232) (w : World) :
    Calls Tryz.prog 15 #[.string s] w fun e w' => e = .returned (.int .i64 ((ldN s s.size : Nat) : Int)) ∧ Ext w w' := by
  have HS := Lib.hid (fun k (h : k < s.size) => ldN_succ h)
  have HL := Lib.hid (fun k => ldN_le s k)
  obtain ⟨N, hN⟩ : ∃ N, ldN s = N := ⟨_, rfl⟩
  have hz : N 0 = 0 := by rw [← hN]; rfl
  rw [hN] at HS HL
  have HN := Lib.hid hN
  clear hN
  go_enter Tryz.func15, Tryz.ntmps15
  go_wp2_with fail
  go_loopw [3, 4] (fun n i wr => ∃ k : Nat, k ≤ s.size ∧ i = .int .i64 k ∧ n = .int .i64 (N k : Nat) ∧ Ext w wr) (fun _ i _ => s.size - (intOf i).toNat)
  case atStart => exact ⟨0, Nat.zero_le _, rfl, by rw [hz]; rfl, Ext.refl _⟩
  case round =>
    obtain ⟨k, hk, rfl, rfl, hx⟩ := hrel
    by_cases hlt : k < s.size
    · have hst := HS.out k hlt
      have hle := HL.out k
      have hg := ldB_bits s[k]
      have HX := Lib.hid hx
      clear hx
      cases hl : ldB s[k]
      · rw [hl] at hg hst
        have HST := Lib.hid hst
        clear hst hl
        go_wp2_with fail
        exact ⟨⟨k + 1, by omega, by go_num, by rw [HST.out]; rfl, HX.out⟩, by simp [intOf]; omega⟩
      · rw [hl] at hg hst
        have HST := Lib.hid hst
        clear hst hl
        go_wp2_with fail
        exact ⟨⟨k + 1, by omega, by go_num, by rw [HST.out]; rfl, HX.out⟩, by simp [intOf]; omega⟩
    · obtain rfl : k = s.size := by omega
      go_wp2_with fail
      go_ret
      exact ⟨by rw [HN.out]; rfl, hx⟩
set_option maxRecDepth 100000 in
set_option maxHeartbeats 4000000 in
theorem singles_any (fp lp : Option Addr) (fc lc : Nat) (A : Alpha) (s : ByteArray) (h0 : (spell A s).2 = 0) (hs : s.size ≤ 140737488351232) (n : Int) (hn : -9223372036854775808 ≤ n ∧ n ≤ 9223372036854775807) (w : World) (hA : AlphaAt w fp lp A) (hT : Tabs w) :
    Calls Tryz.prog 19 #[.agg #[.slice fp A.feats.length fc, .slice lp A.lets.length lc], .string s, .int .i64 n] w fun e w' => e = .returned (.bool true) ∧ Ext w w' := by
  obtain ⟨hok, hr, hin, h64⟩ := spell_ok h0
  have hlg := fun W => tlong_any s hs W
  rw [ldN_word h0] at hlg
  have hw0 := fun W (hA : AlphaAt W fp lp A) hT => whole_any fp lp fc lc A s hs W hA hT
  rw [wholeS_eq, if_pos h0, h0] at hw0
  have hf0 := fun W (hA : AlphaAt W fp lp A) hT => front_any fp lp fc lc A s n hs hn W hA hT
  have hz0 : s.size = 0 → (spell A s).1.length = 0 := fun h => by
    have := ldN_word h0
    rw [h] at this
    rw [← this]; rfl
  have hz1 : (spell A s).1.length = 0 → s.size = 0 := fun h => by
    have : (spell A s).1 = [] := List.eq_nil_of_length_eq_zero h
    rw [this] at hr
    rw [← hr]; rfl
  have hrb : ∀ l : List Int, l.length ≤ 128 → (runesBytes l).size ≤ 140737488351232 := fun l hl => by
    have := rb_size_le l; omega
  have hfs : 1 ≤ n → n ≤ (spell A s).1.length → n + (spell A s).1.length ≤ 64 → frontE A s n = 0 ∧ ∃ x, frontS A s n = x ∧ x.size ≤ 140737488351232 ∧ singleE A x n = 0 ∧ singleB A x n = true ∧ singleS A x n = s := fun h1 h2 h3 => by
    have hE : frontE A s n = 0 := by rw [frontE_eq, if_neg (fun h => h h0), if_neg (by omega), if_neg (by omega)]
    refine ⟨hE, _, rfl, ?_, ?_⟩
    · rw [frontS_eq, if_pos hE]; exact hrb _ (by rw [List.length_append, List.length_take]; omega)
    · rw [frontS_eq, if_pos hE]
      have hb := back1 hok hin (m := n.toNat) (by omega) (by omega) (by omega)
      rw [show ((n.toNat : Nat) : Int) = n by omega, hr] at hb
      exact hb
  have hss : 0 < (spell A s).1.length → 2 * (spell A s).1.length ≤ 64 → ∃ x, runesBytes ((spell A s).1 ++ (spell A s).1) = x ∧ x.size ≤ 140737488351232 ∧ singleE A x 0 = 0 ∧ singleB A x 0 = true ∧ singleS A x 0 = s ∧ x = s ++ s := fun h1 h2 => by
    obtain ⟨e1, e2, e3⟩ := back2 hok hin h1 h2
    rw [hr] at e3
    exact ⟨_, rfl, hrb _ (by rw [List.length_append]; omega), e1, e2, e3, by rw [rb_append, hr]⟩
  have hXs := hrb ((spell A s).1 ++ (spell A s).1) (by rw [List.length_append]; omega)
  obtain ⟨X, hX⟩ : ∃ X, runesBytes ((spell A s).1 ++ (spell A s).1) = X := ⟨_, rfl⟩
  rw [hX] at hw0 hss hXs
  obtain ⟨L, hL⟩ : ∃ L, (spell A s).1.length = L := ⟨_, rfl⟩
  rw [hL] at h64 hlg hz0 hz1 hfs hss
  obtain ⟨z, hz⟩ : ∃ z, w.heap.size = z := ⟨_, rfl⟩
  obtain ⟨W1, hW1⟩ : ∃ W, w.alloc (.cells #[.slice fp A.feats.length fc, .slice lp A.lets.length lc] 25) = W := ⟨_, rfl⟩
  have hx1 : Ext w W1 := by rw [← hW1]; exact (Ext.refl _).alloc _
  have HB := Lib.hid (fun W (hW : Ext W1 W) => (by
    have h := ext_cells hz (W := W) (by rw [hW1]; exact hW : Ext (w.alloc (.cells #[.slice fp A.feats.length fc, .slice lp A.lets.length lc] 25)) W)
    exact ⟨h.1 0, h.1 1, h.2⟩ : W.cell? ⟨z, 0, none⟩ = some (.slice fp A.feats.length fc) ∧ W.cell? ⟨z, 1, none⟩ = some (.slice lp A.lets.length lc) ∧ z < W.heap.size))
  have HLG := Lib.hid (fun W (_ : Ext W1 W) => hlg W)
  have HWH := Lib.hid (fun W (hW : Ext W1 W) => hw0 W (hA.mono (hx1.trans hW)) (hT.ext (hx1.trans hW)))
  have HFR := Lib.hid (fun W (hW : Ext W1 W) => hf0 W (hA.mono (hx1.trans hW)) (hT.ext (hx1.trans hW)))
  have HX := Lib.hid (fun W (hW : Ext W1 W) => hx1.trans hW)
  have HSG := Lib.hid (fun x (hx : x.size ≤ 140737488351232) m (hm : -9223372036854775808 ≤ m ∧ m ≤ 9223372036854775807) W (hW : Ext W1 W) => single_any fp lp fc lc A x m hx hm W (hA.mono (hx1.trans hW)) (hT.ext (hx1.trans hW)))
  have HW1 := Lib.hid hW1
  have HFS := Lib.hid hfs
  have HSS := Lib.hid hss
  have HTE := Lib.hid (toList_isEmpty s)
  clear hW1 hx1 hA hT hfs hss hw0 hf0 hlg hr hin hok hX h0 hrb
  cases hz : s.toList.isEmpty
  · have hL0 : 0 < L := by
      have h := HTE.out
      rw [hz] at h
      have h1 := of_decide_eq_false h.symm
      have h2 := hz1
      omega
    obtain ⟨x, hxe, hxs, y1, y2, y3, y4⟩ : ∃ x, X = x ∧ x.size ≤ 140737488351232 ∧ (2 * L ≤ 64 → singleE A x 0 = 0) ∧ (2 * L ≤ 64 → singleB A x 0 = true) ∧ (2 * L ≤ 64 → singleS A x 0 = s) ∧ (2 * L ≤ 64 → x = s ++ s) := by
      by_cases h : 2 * L ≤ 64
      · obtain ⟨x, e0, e1, e2, e3, e4, e5⟩ := HSS.out hL0 h
        exact ⟨x, e0, e1, fun _ => e2, fun _ => e3, fun _ => e4, fun _ => e5⟩
      · refine ⟨X, rfl, hXs, fun h' => absurd h' h, fun h' => absurd h' h, fun h' => absurd h' h, fun h' => absurd h' h⟩
    subst hxe
    have HY := Lib.hid (fun (h : 2 * L ≤ 64) W (hW : Ext W1 W) => (by have := HSG.out X hxs 0 (by decide) W hW; rw [y1 h, y2 h, y3 h] at this; exact this : Calls Tryz.prog 42 #[.agg #[.slice fp A.feats.length fc, .slice lp A.lets.length lc], .string X, .int .i64 0] W fun e w' => e = .returned (.tuple #[.string s, .bool true, .int .i64 0]) ∧ Ext W w'))
    have HY4 := Lib.hid y4
    clear y1 y2 y3 y4 HSS
    by_cases h1 : 1 ≤ n
    · by_cases h2 : n ≤ L
      · by_cases h3 : n + L ≤ 64
        · obtain ⟨f1, x, f2, f3, f4, f5, f6⟩ := HFS.out h1 h2 h3
          have HF1 := Lib.hid (fun W (hW : Ext W1 W) => (by have := HFR.out W hW; rw [f1, f2] at this; exact this : Calls Tryz.prog 41 #[.agg #[.slice fp A.feats.length fc, .slice lp A.lets.length lc], .string s, .int .i64 n] W fun e w' => e = .returned (.tuple #[.string x, .int .i64 0]) ∧ Ext W w'))
          have HF2 := Lib.hid (fun W (hW : Ext W1 W) => (by have := HSG.out x f3 n hn W hW; rw [f4, f5, f6] at this; exact this : Calls Tryz.prog 42 #[.agg #[.slice fp A.feats.length fc, .slice lp A.lets.length lc], .string x, .int .i64 n] W fun e w' => e = .returned (.tuple #[.string s, .bool true, .int .i64 0]) ∧ Ext W w'))
          clear f1 f2 f3 f4 f5 f6 HFS HFR HSG
          go_enter Tryz.func19, Tryz.ntmps19
          go_wp2_with fail
          rw [HW1.out]
          refine (HLG.out _ (Ext.refl _)).mono ?_
          rintro e w1 ⟨rfl, hx1⟩
          have HZ1 := Lib.hid hx1
          clear hx1
          go_wp2_with fail
          refine (HLG.out _ HZ1.out).mono ?_
          rintro e w2 ⟨rfl, hx2⟩
          have HZ2 := Lib.hid (HZ1.out.trans hx2)
          clear hx2
          obtain ⟨b0, b1, bl⟩ := HB.out _ HZ2.out
          go_wp2_with fail
          refine (HF1.out _ HZ2.out).mono ?_
          rintro e w3 ⟨rfl, hx3⟩
          have HZ3 := Lib.hid (HZ2.out.trans hx3)
          clear hx3 b0 b1 bl
          obtain ⟨b0, b1, bl⟩ := HB.out _ HZ3.out
          go_wp2_with fail
          refine (HF2.out _ HZ3.out).mono ?_
          rintro e w4 ⟨rfl, hx4⟩
          have HZ := Lib.hid (HZ3.out.trans hx4)
          clear hx4 b0 b1 bl
          go_wp2_with fail
          refine (HLG.out _ HZ.out).mono ?_
          rintro e wl ⟨rfl, hxl⟩
          have HZL := Lib.hid (HZ.out.trans hxl)
          clear hxl
          obtain ⟨c0, c1, cl⟩ := HB.out _ HZL.out
          by_cases hw : 2 * L ≤ 64
          · go_wp2_with fail
            refine (HWH.out _ HZL.out).mono ?_
            rintro e wa ⟨rfl, hxq⟩
            have HZ8 := Lib.hid (HZL.out.trans hxq)
            clear hxq c0 c1 cl
            obtain ⟨c0, c1, cl⟩ := HB.out _ HZ8.out
            go_wp2_with fail
            refine (HY.out hw _ HZ8.out).mono ?_
            rintro e wb ⟨rfl, hxq⟩
            have h9 := HX.out _ (HZ8.out.trans hxq)
            have hy4 := HY4.out hw
            clear hxq c0 c1 cl HY HY4 HWH
            subst hy4
            go_wp2_with fail
            go_ret
            exact ⟨rfl, h9⟩
          · have h9 := HX.out _ HZL.out
            go_wp2_with fail
            go_ret
            exact ⟨rfl, h9⟩
        · clear HFS HFR HSG
          go_enter Tryz.func19, Tryz.ntmps19
          go_wp2_with fail
          rw [HW1.out]
          refine (HLG.out _ (Ext.refl _)).mono ?_
          rintro e w1 ⟨rfl, hx1⟩
          have HZ1 := Lib.hid hx1
          clear hx1
          go_wp2_with fail
          refine (HLG.out _ HZ1.out).mono ?_
          rintro e w2 ⟨rfl, hx2⟩
          have HZ := Lib.hid (HZ1.out.trans hx2)
          clear hx2
          go_wp2_with fail
          refine (HLG.out _ HZ.out).mono ?_
          rintro e wl ⟨rfl, hxl⟩
          have HZL := Lib.hid (HZ.out.trans hxl)
          clear hxl
          obtain ⟨c0, c1, cl⟩ := HB.out _ HZL.out
          by_cases hw : 2 * L ≤ 64
          · exact absurd hw (by omega)
          · have h9 := HX.out _ HZL.out
            go_wp2_with fail
            go_ret
            exact ⟨rfl, h9⟩
      · clear HFS HFR HSG
        go_enter Tryz.func19, Tryz.ntmps19
        go_wp2_with fail
        rw [HW1.out]
        refine (HLG.out _ (Ext.refl _)).mono ?_
        rintro e w1 ⟨rfl, hx1⟩
        have HZ := Lib.hid hx1
        clear hx1
        go_wp2_with fail
        refine (HLG.out _ HZ.out).mono ?_
        rintro e wl ⟨rfl, hxl⟩
        have HZL := Lib.hid (HZ.out.trans hxl)
        clear hxl
        obtain ⟨c0, c1, cl⟩ := HB.out _ HZL.out
        by_cases hw : 2 * L ≤ 64
        · go_wp2_with fail
          refine (HWH.out _ HZL.out).mono ?_
          rintro e wa ⟨rfl, hxq⟩
          have HZ8 := Lib.hid (HZL.out.trans hxq)
          clear hxq c0 c1 cl
          obtain ⟨c0, c1, cl⟩ := HB.out _ HZ8.out
          go_wp2_with fail
          refine (HY.out hw _ HZ8.out).mono ?_
          rintro e wb ⟨rfl, hxq⟩
          have h9 := HX.out _ (HZ8.out.trans hxq)
          have hy4 := HY4.out hw
          clear hxq c0 c1 cl HY HY4 HWH
          subst hy4
          go_wp2_with fail
          go_ret
          exact ⟨rfl, h9⟩
        · have h9 := HX.out _ HZL.out
          go_wp2_with fail
          go_ret
          exact ⟨rfl, h9⟩
    · clear HFS HFR HSG
      have HZ := Lib.hid (Ext.refl W1)
      go_enter Tryz.func19, Tryz.ntmps19
      go_wp2_with fail
      rw [HW1.out]
      refine (HLG.out _ HZ.out).mono ?_
      rintro e wl ⟨rfl, hxl⟩
      have HZL := Lib.hid (HZ.out.trans hxl)
      clear hxl
      obtain ⟨c0, c1, cl⟩ := HB.out _ HZL.out
      by_cases hw : 2 * L ≤ 64
      · go_wp2_with fail
        refine (HWH.out _ HZL.out).mono ?_
        rintro e wa ⟨rfl, hxq⟩
        have HZ8 := Lib.hid (HZL.out.trans hxq)
        clear hxq c0 c1 cl
        obtain ⟨c0, c1, cl⟩ := HB.out _ HZ8.out
        go_wp2_with fail
        refine (HY.out hw _ HZ8.out).mono ?_
        rintro e wb ⟨rfl, hxq⟩
        have h9 := HX.out _ (HZ8.out.trans hxq)
        have hy4 := HY4.out hw
        clear hxq c0 c1 cl HY HY4 HWH
        subst hy4
        go_wp2_with fail
        go_ret
        exact ⟨rfl, h9⟩
      · have h9 := HX.out _ HZL.out
        go_wp2_with fail
        go_ret
        exact ⟨rfl, h9⟩
  · have hL0 : L = 0 := by
      have h := HTE.out
      rw [hz] at h
      exact hz0 (of_decide_eq_true h.symm)
    by_cases h1 : 1 ≤ n
    · go_enter Tryz.func19, Tryz.ntmps19
      go_wp2_with fail
      rw [HW1.out]
      refine (HLG.out _ (Ext.refl _)).mono ?_
      rintro e w1 ⟨rfl, hx1⟩
      have h9 := HX.out _ hx1
      go_wp2_with fail
      go_ret
      exact ⟨rfl, h9⟩
    · have h9 := HX.out _ (Ext.refl _)
      go_enter Tryz.func19, Tryz.ntmps19
      go_wp2_with fail
      go_ret
      rw [HW1.out]
      exact ⟨rfl, h9⟩
end Go.Proofs.YtcnhlogkhnoacaaGreatDoor
