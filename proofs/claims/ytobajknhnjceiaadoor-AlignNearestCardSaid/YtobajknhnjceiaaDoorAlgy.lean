/- The law AlignNearest holds (its walk). -/
import Derived.Test.YtobajknhnjceiaaDoorAlgx
import Derived.Test.YtobajknhnjceiaaDoorAlgv
import Derived.Test.YtobajknhnjceiaaDoorHeld
namespace Go.Proofs.YtobajknhnjceiaaDoor
open Go.RowKit Go.Cg Go.Shelf Go.Maps

theorem infoSt : (Tryd.prog.info? 9).map (fun i => (i.zero, i.size, i.bytes)) = some (some (.string ⟨#[]⟩), 1, 16) := by kernel_rfl

set_option maxRecDepth 100000 in
set_option maxHeartbeats 4000000 in
theorem alignNearest_any (fp lp : Option Addr) (fc lc : Nat) (A : Alpha) (x : Int) (hx : -2147483648 ≤ x ∧ x ≤ 2147483647) (y : Int) (hy : -2147483648 ≤ y ∧ y ≤ 2147483647) (s : ByteArray) (hs : s.size ≤ 140737488351232) (tp : Option Addr) (tcap : Nat) (L : List ByteArray) (w : World) (hA : AlphaAt w fp lp A) (hL : TextsAt w tp L) (hTb : Tabs w) :
    Calls Tryd.prog 3 #[.agg #[.slice fp A.feats.length fc, .slice lp A.lets.length lc], .int .i32 x, .int .i32 y, .string s, .slice tp L.length tcap] w fun e w' => e = .returned (.bool true) ∧ Ext w w' := by
  have hx3 : Ext w (w.alloc (.cells #[.slice fp A.feats.length fc, .slice lp A.lets.length lc] 25)) := (Ext.refl _).alloc _
  obtain ⟨i0, hi, hz0, hz1, hz2⟩ := info_parts infoSt
  have HBX := Lib.hid (fun W (hW : Ext (w.alloc (.cells #[.slice fp A.feats.length fc, .slice lp A.lets.length lc] 25)) W) => (⟨hW.cell0 0, hW.cell0 1, hW.lt0⟩ : W.cell? ⟨w.heap.size, 0, none⟩ = some (.slice fp A.feats.length fc) ∧ W.cell? ⟨w.heap.size, 1, none⟩ = some (.slice lp A.lets.length lc) ∧ w.heap.size < W.heap.size))
  have h1 := fun W (hW : Ext w W) => Cost_any fp lp fc lc A x y W (hA.mono hW)
  have h2 := fun W (hW : Ext w W) => Cost21_any fp lp fc lc A x y hx hy W (hA.mono hW)
  have h3 := fun mp mc W (hW : Ext w W) (hm : TextsAt W mp L) => nearest_any fp lp fc lc A s hs mp mc L W (hA.mono hW) hm (hTb.ext hW)
  have h4 := fun W (hW : Ext w W) => nearest21_any fp lp fc lc A s hs tp tcap L W (hA.mono hW) (hL.mono hW) (hTb.ext hW)
  obtain ⟨a1, q1⟩ : ∃ v, costN A x y = v := ⟨_, rfl⟩
  obtain ⟨a2, q2⟩ : ∃ v, costE A x y = v := ⟨_, rfl⟩
  obtain ⟨a3, q3⟩ : ∃ v, lnN A s L = v := ⟨_, rfl⟩
  obtain ⟨a4, q4⟩ : ∃ v, lnC A s L = v := ⟨_, rfl⟩
  obtain ⟨a5, q5⟩ : ∃ v, lnE A s L = v := ⟨_, rfl⟩
  rw [q1, q2] at h1 h2
  rw [q3, q4, q5] at h3 h4
  have H1 := Lib.hid h1
  have H2 := Lib.hid h2
  have H3 := Lib.hid h3
  have H4 := Lib.hid h4
  have hLb := hL.big
  clear h1 h2 h3 h4 q1 q2 q3 q4 q5 hx hy
  by_cases h60 : 60 < L.length
  · have g1 : decide ((L.length : Int) > 60) = true := decide_eq_true (by omega)
    have g2 : decide ((60 : Int) < L.length) = true := decide_eq_true (by omega)
    by_cases h40 : L.length ≤ 4096
    · have g3 : decide ((L.length : Int) ≤ 4096) = true := decide_eq_true (by omega)
      clear h60 h40
      go_enter Tryd.func3, Tryd.ntmps3
      go_wp2_with (go_at_call 15; refine (awake21_any _).mono ?_; rintro _ w1 ⟨rfl, hx1⟩)
      go_ret
      exact ⟨rfl, hx3.trans hx1⟩
    · have g3 : decide ((L.length : Int) ≤ 4096) = false := decide_eq_false (by omega)
      clear h60 h40
      go_enter Tryd.func3, Tryd.ntmps3
      go_wp2_with (first
        | (go_at_call 15; refine (awake21_any _).mono ?_; rintro _ w1 ⟨rfl, hx1⟩; obtain ⟨d0, d1, l0⟩ := HBX.out _ hx1)
        | (at_builtin; go_loud (refine wpList_append_copy _ rfl _ _ 22 rfl 9 i0 (.string ⟨#[]⟩) 1 16 Tryd.underlying22 hi hz0 hz1 hz2 rfl (by decide) rfl tp L.length tcap (textRow L) rfl (by rw [textRow_len, Nat.mul_one]) (texts_news (hL.mono (hx3.trans hx1))) (textRow_one L) (by unfold maxLen; omega) (by omega) ?_); intro v' w2 hown hgrow; obtain ⟨mp, mc, rfl⟩ := ownsRow_slice hown; have hx2 : Ext w1 w2 := (Ext.refl _).grown hgrow (by intro k h; cases h); obtain ⟨d0, d1, l0⟩ := HBX.out _ (hx1.trans hx2)))
      refine (H1.out _ ((hx3.trans hx1).trans hx2)).mono ?_
      rintro _ w3 ⟨rfl, hx4⟩
      obtain ⟨d0, d1, l0⟩ := HBX.out _ ((hx1.trans hx2).trans hx4)
      have hM := texts_own hown hL.big hL.small
      clear hown hgrow
      go_wp2_with fail
      refine (H2.out _ (((hx3.trans hx1).trans hx2).trans hx4)).mono ?_
      rintro _ w5 ⟨rfl, hx5⟩
      obtain ⟨d0, d1, l0⟩ := HBX.out _ (((hx1.trans hx2).trans hx4).trans hx5)
      go_wp2_with fail
      refine (H3.out mp mc _ ((((hx3.trans hx1).trans hx2).trans hx4).trans hx5) (hM.mono (hx4.trans hx5))).mono ?_
      rintro _ w6 ⟨rfl, hx6⟩
      obtain ⟨d0, d1, l0⟩ := HBX.out _ ((((hx1.trans hx2).trans hx4).trans hx5).trans hx6)
      go_wp2_with fail
      refine (H4.out _ (((((hx3.trans hx1).trans hx2).trans hx4).trans hx5).trans hx6)).mono ?_
      rintro _ w7 ⟨rfl, hx7⟩
      have hxw : Ext w w7 := (((((hx3.trans hx1).trans hx2).trans hx4).trans hx5).trans hx6).trans hx7
      have hM7 := hM.mono (((hx4.trans hx5).trans hx6).trans hx7)
      clear d0 d1 l0 hM hx1 hx2 hx4 hx5 hx6 hx7
      go_wp2_with fail
      go_loopw [23] (fun i wr => ∃ k : Nat, k ≤ L.length ∧ i = .int .i64 k ∧ Ext w7 wr) (fun i _ => L.length - (intOf i).toNat)
      case atStart => exact ⟨0, Nat.zero_le _, rfl, Ext.refl _⟩
      case round =>
        obtain ⟨k, hk, rfl, hx⟩ := hrel
        by_cases hlt : k < L.length
        · obtain ⟨b, off, e0, hbw, c0⟩ := (hL.mono (hxw.trans hx)).cells hlt
          obtain ⟨b2, off2, e2, hbw2, c2⟩ := (hM7.mono hx).cells hlt
          subst e0
          subst e2
          go_wp2_with fail
          (refine wp_region_ext (by kernel_rfl) (by kernel_rfl) ?_; intro ι hι g hg; have q_c0 := hg.cell c0; have q_c2 := hg.cell c2; clear c0 c2; (repeat (go_big_quiet_step (fail))); refine wpQuiet_nil ?_; rintro w8 ⟨i2, rfl⟩; have hq := hg.ext i2; generalize g i2 = w8 at hq ⊢; clear q_c0 q_c2 i2 hg g hι ι)
          go_wp2_with fail
          exact ⟨⟨k + 1, by omega, by go_num, hx.trans hq⟩, by simp [intOf]; omega⟩
        · have e : k = L.length := by omega
          subst e
          go_wp2_with fail
          go_ret
          exact ⟨rfl, hxw.trans hx⟩
  · have g1 : decide ((L.length : Int) > 60) = false := decide_eq_false (by omega)
    have g2 : decide ((60 : Int) < L.length) = false := decide_eq_false (by omega)
    clear h60
    go_enter Tryd.func3, Tryd.ntmps3
    go_wp2_with (first
      | (go_at_call 15; refine (awake21_any _).mono ?_; rintro _ w1 ⟨rfl, hx1⟩; obtain ⟨d0, d1, l0⟩ := HBX.out _ hx1)
      | (at_builtin; go_loud (refine wpList_append_copy _ rfl _ _ 22 rfl 9 i0 (.string ⟨#[]⟩) 1 16 Tryd.underlying22 hi hz0 hz1 hz2 rfl (by decide) rfl tp L.length tcap (textRow L) rfl (by rw [textRow_len, Nat.mul_one]) (texts_news (hL.mono (hx3.trans hx1))) (textRow_one L) (by unfold maxLen; omega) (by omega) ?_); intro v' w2 hown hgrow; obtain ⟨mp, mc, rfl⟩ := ownsRow_slice hown; have hx2 : Ext w1 w2 := (Ext.refl _).grown hgrow (by intro k h; cases h); obtain ⟨d0, d1, l0⟩ := HBX.out _ (hx1.trans hx2)))
    refine (H1.out _ ((hx3.trans hx1).trans hx2)).mono ?_
    rintro _ w3 ⟨rfl, hx4⟩
    obtain ⟨d0, d1, l0⟩ := HBX.out _ ((hx1.trans hx2).trans hx4)
    have hM := texts_own hown hL.big hL.small
    clear hown hgrow
    go_wp2_with fail
    refine (H2.out _ (((hx3.trans hx1).trans hx2).trans hx4)).mono ?_
    rintro _ w5 ⟨rfl, hx5⟩
    obtain ⟨d0, d1, l0⟩ := HBX.out _ (((hx1.trans hx2).trans hx4).trans hx5)
    go_wp2_with fail
    refine (H3.out mp mc _ ((((hx3.trans hx1).trans hx2).trans hx4).trans hx5) (hM.mono (hx4.trans hx5))).mono ?_
    rintro _ w6 ⟨rfl, hx6⟩
    obtain ⟨d0, d1, l0⟩ := HBX.out _ ((((hx1.trans hx2).trans hx4).trans hx5).trans hx6)
    go_wp2_with fail
    refine (H4.out _ (((((hx3.trans hx1).trans hx2).trans hx4).trans hx5).trans hx6)).mono ?_
    rintro _ w7 ⟨rfl, hx7⟩
    have hxw : Ext w w7 := (((((hx3.trans hx1).trans hx2).trans hx4).trans hx5).trans hx6).trans hx7
    have hM7 := hM.mono (((hx4.trans hx5).trans hx6).trans hx7)
    clear d0 d1 l0 hM hx1 hx2 hx4 hx5 hx6 hx7
    go_wp2_with fail
    go_loopw [23] (fun i wr => ∃ k : Nat, k ≤ L.length ∧ i = .int .i64 k ∧ Ext w7 wr) (fun i _ => L.length - (intOf i).toNat)
    case atStart => exact ⟨0, Nat.zero_le _, rfl, Ext.refl _⟩
    case round =>
      obtain ⟨k, hk, rfl, hx⟩ := hrel
      by_cases hlt : k < L.length
      · obtain ⟨b, off, e0, hbw, c0⟩ := (hL.mono (hxw.trans hx)).cells hlt
        obtain ⟨b2, off2, e2, hbw2, c2⟩ := (hM7.mono hx).cells hlt
        subst e0
        subst e2
        go_wp2_with fail
        (refine wp_region_ext (by kernel_rfl) (by kernel_rfl) ?_; intro ι hι g hg; have q_c0 := hg.cell c0; have q_c2 := hg.cell c2; clear c0 c2; (repeat (go_big_quiet_step (fail))); refine wpQuiet_nil ?_; rintro w8 ⟨i2, rfl⟩; have hq := hg.ext i2; generalize g i2 = w8 at hq ⊢; clear q_c0 q_c2 i2 hg g hι ι)
        go_wp2_with fail
        exact ⟨⟨k + 1, by omega, by go_num, hx.trans hq⟩, by simp [intOf]; omega⟩
      · have e : k = L.length := by omega
        subst e
        go_wp2_with fail
        go_ret
        exact ⟨rfl, hxw.trans hx⟩

end Go.Proofs.YtobajknhnjceiaaDoor
