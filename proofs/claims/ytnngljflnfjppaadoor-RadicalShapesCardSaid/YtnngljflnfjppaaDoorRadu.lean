/- The law RadicalShapes, walked. -/
import Derived.Test.YtnngljflnfjppaaDoorRadx
import Derived.Test.YtnngljflnfjppaaDoorHeld
namespace Go.Proofs.YtnngljflnfjppaaDoor
open Go.RowKit Go.Cg Go.Shelf Go.Maps

set_option maxRecDepth 100000 in
set_option maxHeartbeats 8000000 in
theorem radicalShapes_any (fp lp sp : Option Addr) (fc lc sc : Nat) (A : Alpha) (r : ByteArray) (hr : r.size ≤ 140737488351232) (s : ByteArray) (hs : s.size ≤ 140737488351232) (nm fm : ByteArray) (hn : nm.size ≤ 140737488351232) (hf : fm.size ≤ 140737488351232) (L : List (ByteArray × ByteArray)) (w : World) (hA : AlphaAt w fp lp A) (hL : ShapesAt w sp L) (hT : Tabs w) :
    Calls Tryd.prog 5 #[.agg #[.slice fp A.feats.length fc, .slice lp A.lets.length lc], .string r, .string s, .agg #[.string nm, .string fm], .slice sp L.length sc] w fun e w' => e = .returned (.bool true) ∧ Ext w w' := by
  have hx4 : Ext w ((w.alloc (.cells #[.slice fp A.feats.length fc, .slice lp A.lets.length lc] 26)).alloc (.cells #[.string nm, .string fm] 41)) := ((Ext.refl _).alloc _).alloc _
  have hxb : Ext (w.alloc (.cells #[.slice fp A.feats.length fc, .slice lp A.lets.length lc] 26)) ((w.alloc (.cells #[.slice fp A.feats.length fc, .slice lp A.lets.length lc] 26)).alloc (.cells #[.string nm, .string fm] 41)) := (Ext.refl _).alloc _
  have hbx : ∀ W, Ext ((w.alloc (.cells #[.slice fp A.feats.length fc, .slice lp A.lets.length lc] 26)).alloc (.cells #[.string nm, .string fm] 41)) W → W.cell? ⟨w.heap.size + 1, 0, none⟩ = some (.string nm) ∧ W.cell? ⟨w.heap.size + 1, 1, none⟩ = some (.string fm) ∧ W.cell? ⟨w.heap.size, 0, none⟩ = some (.slice fp A.feats.length fc) ∧ W.cell? ⟨w.heap.size, 1, none⟩ = some (.slice lp A.lets.length lc) ∧ w.heap.size + 1 < W.heap.size ∧ w.heap.size < W.heap.size := fun W hW => by
    have e0 := hW.cell0 0
    have e1 := hW.cell0 1
    have b0 := (hxb.trans hW).cell0 0
    have b1 := (hxb.trans hW).cell0 1
    have l0 := hW.lt0
    rw [size_alloc] at e0 e1 l0
    exact ⟨e0, e1, b0, b1, l0, by omega⟩
  obtain ⟨iH, hiH, hzH0, hzH1, hzH2⟩ := info_parts infoSh
  have hLb := hL.big
  have hlg := fun W hW => longL_any fp lp sp fc lc L.length sc A r hLb hr W (hA.mono hW)
  have hM := fun W hW => merge_any fp lp fc lc A r nm fm hr hn hf W (hA.mono hW) (hT.ext hW)
  have hM2 := fun W hW => Merge13_any fp lp fc lc A r nm fm hr hn hf W (hA.mono hW) (hT.ext hW)
  have hS := fun W hW => split_word_any fp lp fc lc A s nm fm hs hn hf W (hA.mono hW) (hT.ext hW)
  have hS2 := fun W hW => Split13_any fp lp fc lc A s nm fm hs hn hf W (hA.mono hW) (hT.ext hW)
  have hA1 := fun ip ic W hW hI => all_any13 fp lp ip fc lc ic A s L hs W (hA.mono hW) (hT.ext hW) hI
  have hA2 := fun W hW => All13_any fp lp sp fc lc sc A s L hs W (hA.mono hW) (hT.ext hW) (hL.mono hW)
  have hC := fun W hW => shapeCheck_any fp lp fc lc A nm fm hn hf W (hA.mono hW) (hT.ext hW)
  have hC2 := fun W hW => Check13_any fp lp fc lc A nm fm hn hf W (hA.mono hW)
  have hH := fun W => holes_any nm fm W
  have hH2 := fun W => holes13_any nm fm hf W
  obtain ⟨hRL, hIR⟩ := allR_len A s L
  obtain ⟨ME, hME⟩ : ∃ v, mergeE A r nm fm = v := ⟨_, rfl⟩
  obtain ⟨MS, hMS⟩ : ∃ v, mergeS A r nm fm = v := ⟨_, rfl⟩
  obtain ⟨SE, hSE⟩ : ∃ v, splitE A s nm fm = v := ⟨_, rfl⟩
  obtain ⟨SB, hSB⟩ : ∃ v, splitB A s nm fm = v := ⟨_, rfl⟩
  obtain ⟨SS, hSS⟩ : ∃ v, splitS A s nm fm = v := ⟨_, rfl⟩
  obtain ⟨AE, hAE⟩ : ∃ v, allE A s L = v := ⟨_, rfl⟩
  obtain ⟨R, hR⟩ : ∃ v, allR A s L = v := ⟨_, rfl⟩
  obtain ⟨I, hI⟩ : ∃ v, allI A s L = v := ⟨_, rfl⟩
  obtain ⟨CE, hCE⟩ : ∃ v, shapeE A nm fm = v := ⟨_, rfl⟩
  obtain ⟨TH, hTH⟩ : ∃ v, txtHoles fm = v := ⟨_, rfl⟩
  rw [hME, hMS] at hM hM2
  rw [hSE, hSB, hSS] at hS hS2
  rw [hAE, hR, hI] at hA1 hA2
  rw [hR] at hRL hIR
  rw [hI] at hIR
  rw [hCE] at hC hC2
  rw [hTH] at hH hH2
  have HBX := Lib.hid hbx
  have HLG := Lib.hid hlg
  have HM := Lib.hid hM
  have HM2 := Lib.hid hM2
  have HS := Lib.hid hS
  have HS2 := Lib.hid hS2
  have HA1 := Lib.hid hA1
  have HA2 := Lib.hid hA2
  have HC := Lib.hid hC
  have HC2 := Lib.hid hC2
  have HH := Lib.hid hH
  have HH2 := Lib.hid hH2
  have HIR := Lib.hid hIR
  have HRL := Lib.hid hRL
  clear hbx hxb hlg hM hM2 hS hS2 hA1 hA2 hC hC2 hH hH2 hME hMS hSE hSB hSS hAE hR hI hCE hTH hIR hRL
  go_enter Tryd.func5, Tryd.ntmps5
  go_upto_region 4 with (go_at_call 12; refine (HLG.out _ hx4).mono ?_; rintro e w1 ⟨⟨B, rfl, hB⟩, hx1⟩; have hy1 := hx4.trans hx1; obtain ⟨e0, e1, b0, b1, l0, l9⟩ := HBX.out _ hx1; cases B)
  all_goals (try (go_ret; exact ⟨rfl, hy1⟩))
  have hL5 := hB trivial
  have hnews := shapes_news (hL.mono hy1)
  have hl1 := hx4.le
  have hlw := hx1.le
  generalize decide ((3000 : Int) < (s.size : Int)) = q1
  generalize decide ((3000 : Int) < (fm.size : Int)) = q2
  generalize decide ((3000 : Int) < (nm.size : Int)) = q3
  have hsl := shapeRow_len L
  have hso := shapeRow_one L
  go_upto_region 6 with (first | (at_builtin; (refine wpList_append_copy _ rfl _ _ 49 rfl 41 iH (.agg #[.string ⟨#[]⟩, .string ⟨#[]⟩]) 2 32 Tryd.underlying49 hiH hzH0 hzH1 hzH2 rfl (by decide) rfl sp L.length sc (shapeRow L) rfl hsl hnews hso (by unfold maxLen; omega) (by omega) ?_); intro v4 w4 hown4 hgrow4; have hx5 : Ext w1 w4 := Ext.append (Ext.refl w1) (World.ownsRow_nil w1 w1.heap.size 41 2) hgrow4 (Nat.le_refl _); obtain ⟨p4, c4, rfl⟩ := ownsRow_slice hown4) | (at_builtin; (refine wpList_append_own _ rfl _ _ 49 rfl w1.heap.size 41 iH (.agg #[.string ⟨#[]⟩, .string ⟨#[]⟩]) 2 32 Tryd.underlying49 hiH hzH0 hzH1 hzH2 rfl (by decide) _ _ _ rfl (hown4.alloc _) ⟨w4.heap.size, 0, none⟩ 1 1 [.string ⟨#[55, 55]⟩, .string ⟨#[]⟩] rfl rfl (two_cells _ _ _ _) (by simp [Value.oneCell']) (by unfold maxLen; omega) (by omega) (by simp; have := hx5.le; omega) ?_); intro v6 w6 hown6 hgrow6 _))
  have hx7 : Ext w1 w6 := Ext.append (hx5.alloc _) (hown4.alloc _) hgrow6 (Nat.le_refl _)
  obtain ⟨ip, ic, rfl⟩ := ownsRow_slice hown6
  obtain ⟨gi, rfl, hgc, hgb⟩ := ownsRow_some hown6 (by omega)
  obtain ⟨hIn, i0, i1, hgi⟩ := shapes_own hown6 hL.big hL.small
  have hy6 : Ext w w6 := hy1.trans hx7
  have hz6 := hx1.trans hx7
  clear hown4 hown6 hgrow4 hgrow6 hx5 hx7 hx1 hy1 hnews hl1 hlw hsl hso HLG e0 e1 b0 b1 l0 l9
  obtain ⟨e0, e1, b0, b1, l0, l9⟩ := HBX.out _ hz6
  go_upto_region 10 with (first | (go_at_call 20; refine (HM.out _ hy6).mono ?_; rintro e w7 ⟨rfl, hx8⟩; have hy7 := hy6.trans hx8; have hz7 := hz6.trans hx8; obtain ⟨e0, e1, b0, b1, l0, l9⟩ := HBX.out _ hz7) | (go_at_call 21; refine (HM2.out _ hy7).mono ?_; rintro e w8 ⟨rfl, hx9⟩; have hy8 := hy7.trans hx9; have hz8 := hz7.trans hx9; obtain ⟨e0, e1, b0, b1, l0, l9⟩ := HBX.out _ hz8) | (go_at_call 22; refine (HS.out _ hy8).mono ?_; rintro e w9 ⟨rfl, hx10⟩; have hy9 := hy8.trans hx10; have hz9 := hz8.trans hx10; obtain ⟨e0, e1, b0, b1, l0, l9⟩ := HBX.out _ hz9) | (go_at_call 23; refine (HS2.out _ hy9).mono ?_; rintro e w10 ⟨rfl, hx11⟩))
  have hza := hz9.trans hx11
  have hya := hy9.trans hx11
  have h6a : Ext w6 w10 := ((hx8.trans hx9).trans hx10).trans hx11
  clear e0 e1 b0 b1 l0 l9 hx8 hx9 hx10 hx11 hy7 hy8 hy9 hz7 hz8 hz9 HM HM2 HS HS2
  have hS4 := fun (W : World) (hW : Ext w10 W) => (by
    obtain ⟨e0, e1, b0, b1, l0, l9⟩ := HBX.out _ (hza.trans hW)
    exact ⟨hW, b0, b1⟩ : Ext w10 W ∧ W.cell? ⟨w.heap.size, 0, none⟩ = some (.slice fp A.feats.length fc) ∧ W.cell? ⟨w.heap.size, 1, none⟩ = some (.slice lp A.lets.length lc))
  have HS4 := Lib.hid hS4
  clear hS4
  have hb1 : (0 : Int) ≤ (L.length : Int) := by omega
  have hb2 : (L.length : Int) ≤ (ic : Int) := by omega
  go_region_held3 (fun W => Ext w10 W ∧ W.cell? ⟨w.heap.size, 0, none⟩ = some (.slice fp A.feats.length fc) ∧ W.cell? ⟨w.heap.size, 1, none⟩ = some (.slice lp A.lets.length lc)) (exact HS4.out _ (by first | assumption | exact Ext.refl _ | exact (Ext.refl _).drew))
    (first
      | (go_at_call 24; refine (HA1.out _ _ _ hya.drew (hIn.mono h6a.drew)).mono ?_; rintro e w11 ⟨rp, rc, jp, jc, rfl, hr1, hj1, hx12⟩; have hE : Ext w10 w11 := ((Ext.refl w10).drew).trans hx12))
  have hyb := hya.trans hE
  have hzb := hza.trans hE
  go_upto_region 12 with (go_at_call 25; refine (HA2.out _ hyb).mono ?_; rintro e w12 ⟨rp2, rc2, jp2, jc2, rfl, hr2, hj2, hx13⟩)
  have hyc := hyb.trans hx13
  have hzc := hzb.trans hx13
  obtain ⟨e0, e1, b0, b1, l0, l9⟩ := HBX.out _ hzc
  have hR5 : R.length ≤ 100000 := by have := HRL.out; omega
  have hI5 : I.length ≤ 100000 := by have := HRL.out; have := HIR.out; omega
  have hrr1 := ownsRow_reads (ownsRow_ext hr1 hx13) (f := fun j => .string (txt R j)) (fun j hj => textCells_at (by omega))
  have hrr2 := ownsRow_reads hr2 (f := fun j => .string (txt R j)) (fun j hj => textCells_at (by omega))
  have hjj1 := ownsRow_reads (ownsRow_ext hj1 hx13) (f := fun j => .int .i64 ((nth I j : Nat) : Int)) (fun j hj => intCells_at (by omega))
  have hjj2 := ownsRow_reads hj2 (f := fun j => .int .i64 ((nth I j : Nat) : Int)) (fun j hj => intCells_at (by omega))
  rw [Nat.mul_one] at hrr1 hrr2 hjj1 hjj2
  have HSW := Lib.hid (fun W (hW : Ext w12 W) => SameWords_any rp rp2 rc rc2 R hR5 W (hrr1.mono hW) (hrr2.mono hW))
  have HSI := Lib.hid (fun W (hW : Ext w12 W) => SameInts_any jp jp2 jc jc2 I I hI5 W (hjj1.mono hW) (hjj2.mono hW) rfl)
  have HR1 := Lib.hid (ownsRow_base (ownsRow_ext hr1 hx13) (Nat.le_refl w10.heap.size))
  have HJ1 := Lib.hid (ownsRow_base (ownsRow_ext hj1 hx13) (Nat.le_refl w10.heap.size))
  have HR2 := Lib.hid hr2
  have HJ2 := Lib.hid hj2
  have hgl : ∀ g, rp = some ⟨g, 0, none⟩ → g < w11.heap.size := fun g e => by subst e; exact (hr1.lt g rfl).2
  have hgl2 : ∀ g, jp = some ⟨g, 0, none⟩ → g < w11.heap.size := fun g e => by subst e; exact (hj1.lt g rfl).2
  have HGL := Lib.hid hgl
  have HGL2 := Lib.hid hgl2
  clear hr1 hj1 hr2 hj2 hrr1 hrr2 hjj1 hjj2 hx12 hgl hgl2
  (refine wp_region_ext (by kernel_rfl) (by kernel_rfl) ?_; intro ι hι g hg; have q_e0 := hg.cell e0; have q_e1 := hg.cell e1; have q_b0 := hg.cell b0; have q_b1 := hg.cell b1; clear e0 e1 b0 b1; (repeat (go_big_quiet_step ((first | (go_at_call 26; exact hg.call (HSW.out _ (hg.ext _))) | (go_at_call 19; exact hg.call (HSI.out _ (hg.ext _))) | (go_at_call 27; exact hg.call (HC.out _ (hyc.trans (hg.ext _)))) | (go_at_call 28; exact hg.call (HC2.out _ (hyc.trans (hg.ext _)))) | (go_at_call 29; exact hg.call (HH.out _)) | (go_at_call 30; exact hg.call (HH2.out _)))))); refine wpQuiet_nil ?_; rintro w13 ⟨i2, rfl⟩; have hx14 := hg.ext i2; generalize g i2 = w13 at hx14 ⊢; clear q_e0 q_e1 q_b0 q_b1 i2 hg g hι ι)
  have hxa := (hE.trans hx13).trans hx14
  have hw1 := hE.le
  have hIR2 := HIR.out
  have hS5 := fun (W : World) (hW : Ext w10 W) => (by
    obtain ⟨e0, e1, b0, b1, l0, l9⟩ := HBX.out _ (hza.trans hW)
    exact ⟨e0, e1, b0, b1, l0, l9⟩ : W.cell? ⟨w.heap.size + 1, 0, none⟩ = some (.string nm) ∧ W.cell? ⟨w.heap.size + 1, 1, none⟩ = some (.string fm) ∧ W.cell? ⟨w.heap.size, 0, none⟩ = some (.slice fp A.feats.length fc) ∧ W.cell? ⟨w.heap.size, 1, none⟩ = some (.slice lp A.lets.length lc) ∧ w.heap.size + 1 < W.heap.size ∧ w.heap.size < W.heap.size)
  have HS5 := Lib.hid hS5
  have HINM := Lib.hid (fun W (hW : Ext w10 W) => hIn.mono (h6a.trans hW))
  have HI0 := Lib.hid (fun W (hW : Ext w10 W) => ((h6a.trans hW).facts.1 gi (L.length * 2) hgi).trans i0)
  have HI1 := Lib.hid (fun W (hW : Ext w10 W) => ((h6a.trans hW).facts.1 gi (L.length * 2 + 1) hgi).trans i1)
  have hgiw : gi < w10.heap.size := Nat.lt_of_lt_of_le hgi h6a.le
  clear hS5 hIR2 e0 e1 b0 b1 l0 l9 i0 i1 hIn HSW HSI hyb hzb hyc hzc hE
  go_wp2_with fail
  go_loopw [28] (fun i wr => ∃ k : Nat, k ≤ R.length ∧ i = .int .i64 k ∧ Ext w10 wr ∧ (∃ xs, wr.ownsRow w10.heap.size 9 1 (.slice rp R.length rc) R.length xs) ∧ (∃ ys, wr.ownsRow w10.heap.size 3 1 (.slice jp I.length jc) I.length ys) ∧ wr.ownsRow w11.heap.size 9 1 (.slice rp2 R.length rc2) R.length (textCells R) ∧ wr.ownsRow w11.heap.size 3 1 (.slice jp2 I.length jc2) I.length (intCells I)) (fun i _ => R.length - (intOf i).toNat)
  case atStart => exact ⟨0, Nat.zero_le _, rfl, hxa, ⟨_, ownsRow_ext HR1.out hx14⟩, ⟨_, ownsRow_ext HJ1.out hx14⟩, ownsRow_ext HR2.out hx14, ownsRow_ext HJ2.out hx14⟩
  case round =>
    obtain ⟨k, hk, rfl, hx, ⟨xs, hrow⟩, ⟨ys, hint⟩, hrow2, hint2⟩ := hrel
    by_cases hlt : k < R.length
    · have hki : k < I.length := by have := HIR.out; omega
      obtain ⟨g, e0, hgc1, hgb1⟩ := ownsRow_some hrow (by omega)
      subst e0
      obtain ⟨g2, e1, hgc2, hgb2⟩ := ownsRow_some hint (by omega)
      subst e1
      have hg1 := HGL.out g rfl
      have hg2 := HGL2.out g2 rfl
      have hap := rows_apart hrow hint str_int
      have hne : g ≠ g2 := by
        rcases hap with h | h
        · cases h
        · intro e; exact h (by rw [e]; rfl)
      have c0 := hrow.cellAt k (by omega)
      have hxl := hrow.1
      rw [List.getElem?_eq_getElem (by rw [hxl]; omega)] at c0
      have f0 := hrow.frozenAt k
      have hlw := (hrow.lt g rfl).2
      generalize xs[k]'_ = x0 at c0
      go_upto_region 18 with fail
      have hxs : Ext w10 (wr.setCell ⟨g, k, none⟩ (.string ⟨#[55, 55]⟩)) := hx.setCell hgb1 _
      have hrow' := (hrow.stored k (.string ⟨#[55, 55]⟩)).1
      have hint' := ownsRow_setCell_other hint (a := ⟨g, k, none⟩) (by simp only [Value.ownBlock]; intro h; exact hne (Option.some.inj h).symm) (.string ⟨#[55, 55]⟩)
      have hrow2' := ownsRow_setCell_other hrow2 (a := ⟨g, k, none⟩) (own_ge hrow2 hg1) (.string ⟨#[55, 55]⟩)
      have hint2' := ownsRow_setCell_other hint2 (a := ⟨g, k, none⟩) (own_ge hint2 hg1) (.string ⟨#[55, 55]⟩)
      obtain ⟨W', hW'⟩ : ∃ W', wr.setCell ⟨g, k, none⟩ (.string ⟨#[55, 55]⟩) = W' := ⟨_, rfl⟩
      rw [hW'] at hxs hrow' hint' hrow2' hint2' ⊢
      clear c0 f0 hlw hap hrow hint hrow2 hint2 hW'
      have c0 := hint'.cellAt k (by omega)
      have hyl := hint'.1
      rw [List.getElem?_eq_getElem (by rw [hyl]; omega)] at c0
      have f0 := hint'.frozenAt k
      have hlw := (hint'.lt g2 rfl).2
      generalize ys[k]'_ = y0 at c0
      go_wp2_with fail
      refine ⟨⟨k + 1, by omega, by go_num, hxs.setCell hgb2 _, ⟨_, ownsRow_setCell_other hrow' (by simp only [Value.ownBlock]; intro h; exact hne (Option.some.inj h)) _⟩, ⟨_, (hint'.stored k _).1⟩, ownsRow_setCell_other hrow2' (own_ge hrow2' hg2) _, ownsRow_setCell_other hint2' (own_ge hint2' hg2) _⟩, by simp [intOf]; omega⟩
    · clear hrow hint
      have HRR2 := Lib.hid hrow2
      have HJJ2 := Lib.hid hint2
      have e : k = R.length := by omega
      subst e
      go_upto_region 19 with fail
      have hyd := hya.trans hx
      go_region_held3 (fun W => Ext w10 W ∧ W.cell? ⟨w.heap.size, 0, none⟩ = some (.slice fp A.feats.length fc) ∧ W.cell? ⟨w.heap.size, 1, none⟩ = some (.slice lp A.lets.length lc)) (exact HS4.out _ (by first | exact hx | exact hx.drew | exact hx.trans hE3))
        (first
          | (go_at_call 24; refine (HA1.out _ _ _ hyd.drew (HINM.out _ hx.drew)).mono ?_; rintro e w15 ⟨rp3, rc3, jp3, jc3, rfl, hr3, hj3, hx15⟩; have hE3 : Ext wr w15 := ((Ext.refl wr).drew).trans hx15))
      have hye := hyd.trans hE3
      have hxf := hx.trans hE3
      have hR5 : R.length ≤ 100000 := by have := HRL.out; omega
      have hI5 : I.length ≤ 100000 := by have := HRL.out; have := HIR.out; omega
      have hrr1 := ownsRow_reads hr3 (f := fun j => .string (txt R j)) (fun j hj => textCells_at (by omega))
      have hrr2 := ownsRow_reads (ownsRow_ext HRR2.out hE3) (f := fun j => .string (txt R j)) (fun j hj => textCells_at (by omega))
      have hjj1 := ownsRow_reads hj3 (f := fun j => .int .i64 ((nth I j : Nat) : Int)) (fun j hj => intCells_at (by omega))
      have hjj2 := ownsRow_reads (ownsRow_ext HJJ2.out hE3) (f := fun j => .int .i64 ((nth I j : Nat) : Int)) (fun j hj => intCells_at (by omega))
      rw [Nat.mul_one] at hrr1 hrr2 hjj1 hjj2
      have HSW := Lib.hid (fun W (hW : Ext w15 W) => SameWords_any rp3 rp2 rc3 rc2 R hR5 W (hrr1.mono hW) (hrr2.mono hW))
      have HSI := Lib.hid (fun W (hW : Ext w15 W) => SameInts_any jp3 jp2 jc3 jc2 I I hI5 W (hjj1.mono hW) (hjj2.mono hW) rfl)
      clear hrr1 hrr2 hjj1 hjj2 hr3 hj3 HRR2 HJJ2 HR1 HJ1 HR2 HJ2
      go_wp2_with fail
      go_loopw [29] (fun i wq => ∃ k : Nat, k ≤ L.length ∧ i = .int .i64 k ∧ Ext w15 wq) (fun i _ => L.length - (intOf i).toNat)
      case atStart => exact ⟨0, Nat.zero_le _, rfl, Ext.refl _⟩
      case round =>
        obtain ⟨k, hk, rfl, hxq⟩ := hrel
        by_cases hlt : k < L.length
        · obtain ⟨b, off, eb, hbw, c0, c1⟩ := (HINM.out _ (hxf.trans hxq)).cells hlt
          cases eb
          rw [Nat.zero_add] at c0 c1
          obtain ⟨b2, off2, e2, hbw2, d0, d1⟩ := (hL.mono (hye.trans hxq)).cells hlt
          subst e2
          go_wp2_with fail
          (refine wp_region_ext (by kernel_rfl) (by kernel_rfl) ?_; intro ι hι g hg; have q_c0 := hg.cell c0; have q_c1 := hg.cell c1; have q_d0 := hg.cell d0; have q_d1 := hg.cell d1; clear c0 c1 d0 d1; (repeat (go_big_quiet_step (fail))); refine wpQuiet_nil ?_; rintro w17 ⟨i2, rfl⟩; have hq := hg.ext i2; generalize g i2 = w17 at hq ⊢; clear q_c0 q_c1 q_d0 q_d1 i2 hg g hι ι)
          go_wp2_with fail
          exact ⟨⟨k + 1, by omega, by go_num, hxq.trans hq⟩, by simp [intOf]; omega⟩
        · have e : k = L.length := by omega
          subst e
          go_wp2_with (first | (go_at_call 26; refine (HSW.out _ hxq).mono ?_; rintro e w18 ⟨rfl, hx18⟩) | (go_at_call 19; refine (HSI.out _ (hxq.trans hx18)).mono ?_; rintro e w19 ⟨rfl, hx19⟩; have hxz := (hxq.trans hx18).trans hx19; have t0 := HI0.out _ (hxf.trans hxz); have t1 := HI1.out _ (hxf.trans hxz); have tl := Nat.lt_of_lt_of_le hgiw (hxf.trans hxz).le))
          go_ret
          exact ⟨rfl, hye.trans hxz⟩

end Go.Proofs.YtnngljflnfjppaaDoor
