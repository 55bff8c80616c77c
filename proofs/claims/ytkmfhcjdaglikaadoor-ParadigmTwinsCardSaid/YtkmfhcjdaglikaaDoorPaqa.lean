/- The contracts of a shape's work, and the law ParadigmTwins, walked (mktwins.py printed the law). -/
import Derived.Test.YtkmfhcjdaglikaaDoorPary
import Derived.Test.YtkmfhcjdaglikaaDoorPard
import Derived.Test.YtkmfhcjdaglikaaDoorRadj
namespace Go.Proofs.YtkmfhcjdaglikaaDoor
open Go.RowKit Go.Cg Go.Shelf Go.Maps

theorem str_ne {a b : ByteArray} (h : a ≠ b) : (a.toList == b.toList) = false := by
  rw [beq_eq_false_iff_ne, Lib.toList_data, Lib.toList_data]
  intro e
  apply h
  cases a; cases b
  congr 1
  exact Array.toList_inj.1 e
theorem rb_small9 {l : List Int} (h : l.length ≤ 128) : (runesBytes l).size ≤ 140737488351232 := by
  have := runesBytes_size_le l; omega
theorem radS_small9 (A : Alpha) (s : ByteArray) (p : Nat) : (radS A s p).size ≤ 140737488351232 := by
  unfold radS; split
  · exact rb_small9 (Nat.le_trans (List.length_filter_le ..) (Nat.le_trans (spell_len A s) (by decide)))
  · decide
theorem splitS_small9 (A : Alpha) (s nm fm : ByteArray) : (splitS A s nm fm).size ≤ 140737488351232 := by
  unfold splitS; split
  · exact rb_small9 (Nat.le_trans (atHoles_le _ _ _) (Nat.le_trans (formL_len A fm) (by decide)))
  · decide
set_option maxRecDepth 100000 in
set_option maxHeartbeats 8000000 in
theorem shaped_any (fp ap : Option Addr) (fc ac : Nat) (A : Alpha) (v : Nat) (hv : v < 4294967296) (s : ByteArray) (hs : s.size ≤ 2000) (f : ByteArray) (hf : f.size ≤ 2000) (w : World) (hA : AlphaAt w fp ap A) (hT : Tabs w) :
    Calls Tryd.prog 25 #[.agg #[.slice fp A.feats.length fc, .slice ap A.lets.length ac], .int .u32 v, .string s, .string f] w fun e w' => e = .returned (.bool true) ∧ Ext w w' := by
  have hwf : (shpA f).wf := by unfold Aff.wf shpA; dsimp only; exact ⟨by decide, by omega, by decide, by decide, by decide⟩
  have hsm : (shpA f).small := by unfold Aff.small shpA; dsimp only; exact ⟨by omega, by decide⟩
  have HPT := Lib.hid (fun W (hW : Ext w W) => (put_any fp ap fc ac A v hv s (by omega) (shpA f) hwf hsm W (hA.mono hW) (hT.ext hW) : Calls Tryd.prog 13 #[.agg #[.slice fp A.feats.length fc, .slice ap A.lets.length ac], .int .u32 v, .string s, .agg #[.int .u8 5, .string f, .string ⟨#[]⟩, .int .i64 0]] W fun e w' => e = .returned (.tuple #[.string (putS A v s (shpA f)), .int .i64 (putE A v s (shpA f))]) ∧ Ext W w'))
  have HOF := Lib.hid (fun W (hW : Ext w W) => (off_any fp ap fc ac A v hv s (by omega) (shpA f) hwf hsm W (hA.mono hW) (hT.ext hW) : Calls Tryd.prog 14 #[.agg #[.slice fp A.feats.length fc, .slice ap A.lets.length ac], .int .u32 v, .string s, .agg #[.int .u8 5, .string f, .string ⟨#[]⟩, .int .i64 0]] W fun e w' => OptAt2 (offS A v s (shpA f)) (oneE A v s (shpA f)) e w' ∧ Ext W w'))
  have HRD := Lib.hid (fun (t : ByteArray) (ht : t.size ≤ 140737488351232) W (hW : Ext w W) => radicals_any fp ap fc ac A t v ht hv W (hA.mono hW) (hT.ext hW))
  have HMG := Lib.hid (fun W (hW : Ext w W) => merge_any fp ap fc ac A (radS A s v) ⟨#[]⟩ f (radS_small9 A s v) (by decide) (by omega) W (hA.mono hW) (hT.ext hW))
  have HSP := Lib.hid (fun W (hW : Ext w W) => split_word_any fp ap fc ac A s ⟨#[]⟩ f (by omega) (by decide) (by omega) W (hA.mono hW) (hT.ext hW))
  have HR1 := Lib.hid (HRD.out s (by omega))
  have HR2 := Lib.hid (HRD.out (splitS A s ⟨#[]⟩ f) (splitS_small9 A s ⟨#[]⟩ f))
  have HE := Lib.hid (@shp_err A v s f)
  have HK := Lib.hid (@shp_ok A v s f)
  have HV := Lib.hid (@putS_err A v s (shpA f))
  have hx0 : Ext w (w.alloc (.cells #[.slice fp A.feats.length fc, .slice ap A.lets.length ac] 26)) := (Ext.refl _).alloc _
  obtain ⟨W1, hW1⟩ : ∃ W1, w.alloc (.cells #[.slice fp A.feats.length fc, .slice ap A.lets.length ac] 26) = W1 := ⟨_, rfl⟩
  have hx1 : Ext W1 (W1.alloc (.cells #[.int .u8 5, .string f, .string ⟨#[]⟩, .int .i64 0] 36)) := (Ext.refl _).alloc _
  obtain ⟨W2, hW2⟩ : ∃ W2, W1.alloc (.cells #[.int .u8 5, .string f, .string ⟨#[]⟩, .int .i64 0] 36) = W2 := ⟨_, rfl⟩
  rw [hW1] at hx0
  rw [hW2] at hx1
  have z1 : W1.heap.size = w.heap.size + 1 := by rw [← hW1, size_alloc]
  have HB := Lib.hid (fun W (hW : Ext W2 W) => (by
    have h := hx1.trans hW
    rw [← hW1] at h
    have h2 := hW
    rw [← hW2] at h2
    have c0 := h2.cell0 0
    have c1 := h2.cell0 1
    have c2 := h2.cell0 2
    have c3 := h2.cell0 3
    have l0 := h2.lt0
    rw [z1] at c0 c1 c2 c3 l0
    exact ⟨h.cell0 0, h.cell0 1, h.lt0, c0, c1, c2, c3, l0⟩ : W.cell? ⟨w.heap.size, 0, none⟩ = some (.slice fp A.feats.length fc) ∧ W.cell? ⟨w.heap.size, 1, none⟩ = some (.slice ap A.lets.length ac) ∧ w.heap.size < W.heap.size ∧ W.cell? ⟨w.heap.size + 1, 0, none⟩ = some (.int .u8 5) ∧ W.cell? ⟨w.heap.size + 1, 1, none⟩ = some (.string f) ∧ W.cell? ⟨w.heap.size + 1, 2, none⟩ = some (.string ⟨#[]⟩) ∧ W.cell? ⟨w.heap.size + 1, 3, none⟩ = some (.int .i64 0) ∧ w.heap.size + 1 < W.heap.size))
  have HX := Lib.hid (hx0.trans hx1)
  have hW2e : (w.alloc (.cells #[.slice fp A.feats.length fc, .slice ap A.lets.length ac] 26)).alloc (.cells #[.int .u8 5, .string f, .string ⟨#[]⟩, .int .i64 0] 36) = W2 := by rw [hW1, hW2]
  have HW2 := Lib.hid hW2e
  clear hW2e
  clear hW1 hW2 hx0 hx1 z1 HRD hwf hsm
  obtain ⟨V, hV⟩ : ∃ V, putS A v s (shpA f) = V := ⟨_, rfl⟩
  obtain ⟨E, hE⟩ : ∃ E, putE A v s (shpA f) = E := ⟨_, rfl⟩
  obtain ⟨O, hO⟩ : ∃ O, oneE A v s (shpA f) = O := ⟨_, rfl⟩
  obtain ⟨T, hT9⟩ : ∃ T, offS A v s (shpA f) = T := ⟨_, rfl⟩
  obtain ⟨ME, hME⟩ : ∃ ME, mergeE A (radS A s v) ⟨#[]⟩ f = ME := ⟨_, rfl⟩
  obtain ⟨MS, hMS⟩ : ∃ MS, mergeS A (radS A s v) ⟨#[]⟩ f = MS := ⟨_, rfl⟩
  obtain ⟨RE, hRE⟩ : ∃ RE, radE A s v = RE := ⟨_, rfl⟩
  obtain ⟨RS, hRS⟩ : ∃ RS, radS A s v = RS := ⟨_, rfl⟩
  obtain ⟨SS, hSS⟩ : ∃ SS, splitS A s ⟨#[]⟩ f = SS := ⟨_, rfl⟩
  obtain ⟨SB, hSB⟩ : ∃ SB, splitB A s ⟨#[]⟩ f = SB := ⟨_, rfl⟩
  obtain ⟨SE, hSE⟩ : ∃ SE, splitE A s ⟨#[]⟩ f = SE := ⟨_, rfl⟩
  obtain ⟨QS, hQS⟩ : ∃ QS, radS A SS v = QS := ⟨_, rfl⟩
  obtain ⟨QE, hQE⟩ : ∃ QE, radE A SS v = QE := ⟨_, rfl⟩
  rw [hV, hE] at HPT
  rw [hT9, hO] at HOF
  rw [hME, hMS, hRS] at HMG
  rw [hRE, hRS] at HR1
  rw [hSS, hSB, hSE] at HSP
  rw [hSS, hQS, hQE] at HR2
  rw [hE, hRE, hME] at HE
  rw [hE, hRE, hME, hMS, hV, hO, hSE, hSS, hQE, hT9, hSB, hQS] at HK
  rw [hE, hV] at HV
  clear hV hE hO hT9 hME hMS hRE hRS hSS hSB hSE hQS hQE
  have gV : (V.toList == V.toList) = true := by simp
  have gV2 : (V.toList != V.toList) = false := by simp
  by_cases h0 : E = 0
  · subst h0
    obtain ⟨k1, k2, k3, k4, k5, k6, k7, k8⟩ := HK.out rfl
    subst k1 k2 k3 k4 k5 k6
    clear HK HE HV
    go_enter Tryd.func25, Tryd.ntmps25
    go_wp2_with fail
    rw [HW2.out]
    refine (HPT.out _ HX.out).mono ?_
    rintro e w2 ⟨rfl, hz2⟩
    obtain ⟨b0, b1, b2, b3, b4, b5, b6, b7⟩ := HB.out _ (hz2)
    go_wp2_with fail
    refine (HR1.out _ (HX.out.trans hz2)).mono ?_
    rintro e w3 ⟨rfl, hy3⟩
    have hz3 := hz2.trans hy3
    obtain ⟨b0, b1, b2, b3, b4, b5, b6, b7⟩ := HB.out _ (hz3)
    go_wp2_with fail
    refine (HMG.out _ (HX.out.trans hz3)).mono ?_
    rintro e w4 ⟨rfl, hy4⟩
    have hz4 := hz3.trans hy4
    obtain ⟨b0, b1, b2, b3, b4, b5, b6, b7⟩ := HB.out _ (hz4)
    go_wp2_with fail
    refine (HOF.out _ (HX.out.trans hz4)).mono ?_
    rintro e w5 ⟨hq5, hy5⟩
    have hz5 := hz4.trans hy5
    cases T with
    | nil =>
      obtain ⟨qp, qc, rfl⟩ := opt_nil rfl hq5
      cases SB
      · clear k7 k8
        obtain ⟨b0, b1, b2, b3, b4, b5, b6, b7⟩ := HB.out _ (hz5)
        go_wp2_with fail
        refine (HSP.out _ (HX.out.trans (hz5))).mono ?_
        rintro e w6 ⟨rfl, hy6⟩
        have hz6 := (hz5).trans hy6
        obtain ⟨b0, b1, b2, b3, b4, b5, b6, b7⟩ := HB.out _ (hz6)
        go_wp2_with fail
        refine (HR2.out _ (HX.out.trans hz6)).mono ?_
        rintro e w7 ⟨rfl, hy7⟩
        have hz7 := hz6.trans hy7
        go_wp2_with fail
        go_ret
        exact ⟨rfl, HX.out.trans hz7⟩
      · have gq : (QS.toList == SS.toList) = false := str_ne fun h => absurd (k8.2 ⟨rfl, h⟩) (by decide)
        clear k7 k8
        obtain ⟨b0, b1, b2, b3, b4, b5, b6, b7⟩ := HB.out _ (hz5)
        go_wp2_with fail
        refine (HSP.out _ (HX.out.trans (hz5))).mono ?_
        rintro e w6 ⟨rfl, hy6⟩
        have hz6 := (hz5).trans hy6
        obtain ⟨b0, b1, b2, b3, b4, b5, b6, b7⟩ := HB.out _ (hz6)
        go_wp2_with fail
        refine (HR2.out _ (HX.out.trans hz6)).mono ?_
        rintro e w7 ⟨rfl, hy7⟩
        have hz7 := hz6.trans hy7
        go_wp2_with fail
        go_ret
        exact ⟨rfl, HX.out.trans hz7⟩
    | cons s0 T2 =>
      obtain ⟨m1, m2⟩ := k7 (by simp)
      obtain ⟨_, m3⟩ := k8.1 (by simp)
      subst m1 m3
      obtain ⟨rfl, rfl⟩ : s0 = QS ∧ T2 = [] := by simpa using m2
      obtain ⟨qb, qc, rfl, ql, qs⟩ := opt_one rfl hq5
      have gq : (s0.toList == s0.toList) = true := by simp
      have gq2 : (s0.toList != s0.toList) = false := by simp
      clear k7 k8 m2
      obtain ⟨b0, b1, b2, b3, b4, b5, b6, b7⟩ := HB.out _ (hz5)
      go_wp2_with fail
      refine (HSP.out _ (HX.out.trans (hz5))).mono ?_
      rintro e w6 ⟨rfl, hy6⟩
      have hz6 := (hz5).trans hy6
      obtain ⟨b0, b1, b2, b3, b4, b5, b6, b7⟩ := HB.out _ (hz6)
      have qs := (hy6.facts.1 _ _ ql).trans qs
      have ql := Nat.lt_of_lt_of_le ql hy6.le
      go_wp2_with fail
      refine (HR2.out _ (HX.out.trans hz6)).mono ?_
      rintro e w7 ⟨rfl, hy7⟩
      have hz7 := hz6.trans hy7
      go_wp2_with fail
      go_ret
      exact ⟨rfl, HX.out.trans hz7⟩
  · have hv0 := HV.out h0
    have gE : (E != 0) = true := by rw [bne_iff_ne]; exact h0
    have he := HE.out h0
    subst hv0
    clear HK HV HE gV gV2
    by_cases h1 : RE = 0
    · subst h1
      have gM : (ME != 0) = true := by rw [bne_iff_ne]; exact he.resolve_left (fun c => c rfl)
      clear he h0
      go_enter Tryd.func25, Tryd.ntmps25
      go_wp2_with fail
      rw [HW2.out]
      refine (HPT.out _ HX.out).mono ?_
      rintro e w2 ⟨rfl, hz2⟩
      obtain ⟨b0, b1, b2, b3, b4, b5, b6, b7⟩ := HB.out _ (hz2)
      go_wp2_with fail
      refine (HR1.out _ (HX.out.trans hz2)).mono ?_
      rintro e w3 ⟨rfl, hy3⟩
      have hz3 := hz2.trans hy3
      obtain ⟨b0, b1, b2, b3, b4, b5, b6, b7⟩ := HB.out _ (hz3)
      go_wp2_with fail
      refine (HMG.out _ (HX.out.trans hz3)).mono ?_
      rintro e w4 ⟨rfl, hy4⟩
      have hz4 := hz3.trans hy4
      obtain ⟨b0, b1, b2, b3, b4, b5, b6, b7⟩ := HB.out _ (hz4)
      go_wp2_with fail
      go_ret
      exact ⟨rfl, HX.out.trans hz4⟩
    · have gR : (RE != 0) = true := by rw [bne_iff_ne]; exact h1
      clear he h0 h1
      go_enter Tryd.func25, Tryd.ntmps25
      go_wp2_with fail
      rw [HW2.out]
      refine (HPT.out _ HX.out).mono ?_
      rintro e w2 ⟨rfl, hz2⟩
      obtain ⟨b0, b1, b2, b3, b4, b5, b6, b7⟩ := HB.out _ (hz2)
      go_wp2_with fail
      refine (HR1.out _ (HX.out.trans hz2)).mono ?_
      rintro e w3 ⟨rfl, hy3⟩
      have hz3 := hz2.trans hy3
      obtain ⟨b0, b1, b2, b3, b4, b5, b6, b7⟩ := HB.out _ (hz3)
      go_wp2_with fail
      refine (HMG.out _ (HX.out.trans hz3)).mono ?_
      rintro e w4 ⟨rfl, hy4⟩
      have hz4 := hz3.trans hy4
      obtain ⟨b0, b1, b2, b3, b4, b5, b6, b7⟩ := HB.out _ (hz4)
      go_wp2_with fail
      go_ret
      exact ⟨rfl, HX.out.trans hz4⟩
end Go.Proofs.YtkmfhcjdaglikaaDoor

namespace Go.Proofs.YtkmfhcjdaglikaaDoor
open Go.RowKit Go.Cg Go.Shelf Go.Maps

set_option maxRecDepth 100000 in
set_option maxHeartbeats 16000000 in
theorem paradigmTwins_any (fp ap : Option Addr) (fc ac : Nat) (A : Alpha) (v : Nat) (hv : v < 4294967296) (s : ByteArray) (hs : s.size ≤ 140737488351232) (f : ByteArray) (hf : f.size ≤ 140737488351232) (n : Int) (hn : -9223372036854775808 ≤ n ∧ n ≤ 9223372036854775807) (w : World) (hA : AlphaAt w fp ap A) (hT : Tabs w) :
    Calls Tryd.prog 7 #[.agg #[.slice fp A.feats.length fc, .slice ap A.lets.length ac], .int .u32 v, .string s, .string f, .int .i64 n] w fun e w' => e = .returned (.bool true) ∧ Ext w w' := by
  have hx0 : Ext w (w.alloc (.cells #[.slice fp A.feats.length fc, .slice ap A.lets.length ac] 26)) := (Ext.refl _).alloc _
  have HBX := Lib.hid (fun W (hW : Ext (w.alloc (.cells #[.slice fp A.feats.length fc, .slice ap A.lets.length ac] 26)) W) => (⟨hW.cell0 0, hW.cell0 1, hW.lt0⟩ : W.cell? ⟨w.heap.size, 0, none⟩ = some (.slice fp A.feats.length fc) ∧ W.cell? ⟨w.heap.size, 1, none⟩ = some (.slice ap A.lets.length ac) ∧ w.heap.size < W.heap.size))
  have HAL := Lib.hid (alive17_any _ (hT.ext hx0))
  have HX := Lib.hid hx0
  clear hx0
  by_cases hg1 : 2000 < s.size
  · go_enter Tryd.func7, Tryd.ntmps7
    go_wp2_with fail
    refine HAL.out.mono ?_
    rintro e w1 ⟨rfl, hy1⟩
    go_wp2_with fail
    go_ret
    exact ⟨rfl, HX.out.trans hy1⟩
  by_cases hg2 : 2000 < f.size
  · go_enter Tryd.func7, Tryd.ntmps7
    go_wp2_with fail
    refine HAL.out.mono ?_
    rintro e w1 ⟨rfl, hy1⟩
    go_wp2_with fail
    go_ret
    exact ⟨rfl, HX.out.trans hy1⟩
  have hwf : (dblA n).wf := by unfold Aff.wf dblA; dsimp only; exact ⟨by decide, by decide, by decide, hn.1, hn.2⟩
  have hsm : (dblA n).small := by unfold Aff.small dblA; dsimp only; exact ⟨by decide, by decide⟩
  have HPT := Lib.hid (fun W (hW : Ext w W) => (put_any fp ap fc ac A v hv s hs (dblA n) hwf hsm W (hA.mono hW) (hT.ext hW) : Calls Tryd.prog 13 #[.agg #[.slice fp A.feats.length fc, .slice ap A.lets.length ac], .int .u32 v, .string s, .agg #[.int .u8 6, .string ⟨#[]⟩, .string ⟨#[]⟩, .int .i64 n]] W fun e w' => e = .returned (.tuple #[.string (putS A v s (dblA n)), .int .i64 (putE A v s (dblA n))]) ∧ Ext W w'))
  have HOF := Lib.hid (fun W (hW : Ext w W) => (off_any fp ap fc ac A v hv s hs (dblA n) hwf hsm W (hA.mono hW) (hT.ext hW) : Calls Tryd.prog 14 #[.agg #[.slice fp A.feats.length fc, .slice ap A.lets.length ac], .int .u32 v, .string s, .agg #[.int .u8 6, .string ⟨#[]⟩, .string ⟨#[]⟩, .int .i64 n]] W fun e w' => OptAt2 (offS A v s (dblA n)) (oneE A v s (dblA n)) e w' ∧ Ext W w'))
  have HFR := Lib.hid (fun W (hW : Ext w W) => front_any fp ap fc ac A s n hs hn W (hA.mono hW) (hT.ext hW))
  have HWH := Lib.hid (fun W (hW : Ext w W) => whole_any fp ap fc ac A s hs W (hA.mono hW) (hT.ext hW))
  have HSG := Lib.hid (fun W (hW : Ext w W) => single_any fp ap fc ac A s n hs hn W (hA.mono hW) (hT.ext hW))
  have HSH := Lib.hid (fun W (hW : Ext w W) => shaped_any fp ap fc ac A v hv s (by omega) f (by omega) W (hA.mono hW) (hT.ext hW))
  have HE := Lib.hid (@dbl_err A v s n)
  have HK := Lib.hid (@dbl_ok A v s n)
  have HV := Lib.hid (@putS_err A v s (dblA n))
  have HLE := Lib.hid (offS_len A v s (dblA n))
  by_cases hz : n = 0
  · have hD1 : dE A s n = (spell A s).2 := if_pos hz
    have hD2 : dS A s n = wholeS A s := if_pos hz
    obtain ⟨FS, hFS⟩ : ∃ FS, frontS A s n = FS := ⟨_, rfl⟩
    obtain ⟨FE, hFE⟩ : ∃ FE, frontE A s n = FE := ⟨_, rfl⟩
    rw [hFS, hFE] at HFR
    rw [← hD1, ← hD2] at HWH
    have gz : (n == 0) = true := by rw [beq_iff_eq]; exact hz
    obtain ⟨V, hV9⟩ : ∃ V, putS A v s (dblA n) = V := ⟨_, rfl⟩
    obtain ⟨E, hE9⟩ : ∃ E, putE A v s (dblA n) = E := ⟨_, rfl⟩
    obtain ⟨O, hO9⟩ : ∃ O, oneE A v s (dblA n) = O := ⟨_, rfl⟩
    obtain ⟨T, hT9⟩ : ∃ T, offS A v s (dblA n) = T := ⟨_, rfl⟩
    obtain ⟨DE, hDE9⟩ : ∃ DE, dE A s n = DE := ⟨_, rfl⟩
    obtain ⟨DS, hDS9⟩ : ∃ DS, dS A s n = DS := ⟨_, rfl⟩
    obtain ⟨SE, hSE9⟩ : ∃ SE, singleE A s n = SE := ⟨_, rfl⟩
    obtain ⟨SS, hSS9⟩ : ∃ SS, singleS A s n = SS := ⟨_, rfl⟩
    obtain ⟨SB, hSB9⟩ : ∃ SB, singleB A s n = SB := ⟨_, rfl⟩
    rw [hV9, hE9] at HPT
    rw [hT9, hO9] at HOF
    rw [hSE9, hSS9, hSB9] at HSG
    rw [hDE9, hDS9] at HWH
    rw [hE9, hDE9] at HE
    rw [hE9, hDE9, hDS9, hV9, hSE9, hO9, hSB9, hT9, hSS9] at HK
    rw [hE9, hV9] at HV
    rw [hT9] at HLE
    clear hV9 hE9 hO9 hT9 hDE9 hDS9 hSE9 hSS9 hSB9 hD1 hD2 hz
    by_cases hE0 : E = 0
    · subst hE0
      obtain ⟨k1, k2, k3, k4, k5⟩ := HK.out rfl
      subst k1 k2 k3 k4
      have gV : (DS.toList == DS.toList) = true := by simp
      have gV2 : (DS.toList != DS.toList) = false := by simp
      clear HK HE HV
      go_enter Tryd.func7, Tryd.ntmps7
      go_wp2_with fail
      refine HAL.out.mono ?_
      rintro e w1 ⟨rfl, hy1⟩
      have HB := Lib.hid (fun W (hW : Ext (w1.alloc (.cells #[.int .u8 6, .string ⟨#[]⟩, .string ⟨#[]⟩, .int .i64 n] 36)) W) => (⟨hW.cell0 0, hW.cell0 1, hW.cell0 2, hW.cell0 3, hW.lt0⟩ : W.cell? ⟨w1.heap.size, 0, none⟩ = some (.int .u8 6) ∧ W.cell? ⟨w1.heap.size, 1, none⟩ = some (.string ⟨#[]⟩) ∧ W.cell? ⟨w1.heap.size, 2, none⟩ = some (.string ⟨#[]⟩) ∧ W.cell? ⟨w1.heap.size, 3, none⟩ = some (.int .i64 n) ∧ w1.heap.size < W.heap.size))
      have hz1 := hy1.alloc (.cells #[.int .u8 6, .string ⟨#[]⟩, .string ⟨#[]⟩, .int .i64 n] 36)
      obtain ⟨d0, d1, l0⟩ := HBX.out _ hz1
      go_wp2_with fail
      refine (HPT.out _ (HX.out.trans hz1)).mono ?_
      rintro e w2 ⟨rfl, hy2⟩
      have hz2 := hz1.trans hy2
      obtain ⟨d0, d1, l0⟩ := HBX.out _ (hz2)
      obtain ⟨c0, c1, c2, c3, l1⟩ := HB.out _ (hy2)
      go_wp2_with fail
      refine (HFR.out _ (HX.out.trans hz2)).mono ?_
      rintro e w3 ⟨rfl, hy3⟩
      have hz3 := hz2.trans hy3
      have hb3 := hy2.trans hy3
      obtain ⟨d0, d1, l0⟩ := HBX.out _ (hz3)
      obtain ⟨c0, c1, c2, c3, l1⟩ := HB.out _ (hb3)
      go_wp2_with fail
      refine (HWH.out _ (HX.out.trans hz3)).mono ?_
      rintro e w4 ⟨rfl, hy4⟩
      have hz4 := hz3.trans hy4
      have hb4 := hb3.trans hy4
      obtain ⟨d0, d1, l0⟩ := HBX.out _ (hz4)
      obtain ⟨c0, c1, c2, c3, l1⟩ := HB.out _ (hb4)
      go_wp2_with fail
      refine (HOF.out _ (HX.out.trans hz4)).mono ?_
      rintro e w5 ⟨hq5, hy5⟩
      have hz5 := hz4.trans hy5
      have hb5 := hb4.trans hy5
      obtain ⟨d0, d1, l0⟩ := HBX.out _ (hz5)
      obtain ⟨c0, c1, c2, c3, l1⟩ := HB.out _ (hb5)
      by_cases hs0 : 0 < s.size
      · obtain ⟨m1, m2⟩ := k5 hs0
        cases SB
        · have hT0 : T = [] := by
            have h1 := HLE.out
            have h2 : ¬ T.length = 1 := fun h => absurd (m1.2 h) (by decide)
            exact List.eq_nil_of_length_eq_zero (by omega)
          subst hT0
          obtain ⟨qp, qc, rfl⟩ := opt_nil rfl hq5
          clear m1 m2 k5
          go_wp2_with fail
          refine (HSG.out _ (HX.out.trans hz5)).mono ?_
          rintro e w6 ⟨rfl, hy6⟩
          have hz6 := hz5.trans hy6
          have hb6 := hb5.trans hy6
          obtain ⟨d0, d1, l0⟩ := HBX.out _ (hz6)
          obtain ⟨c0, c1, c2, c3, l1⟩ := HB.out _ (hb6)
          go_wp2_with fail
          refine (HSH.out _ (HX.out.trans hz6)).mono ?_
          rintro e w7 ⟨rfl, hy7⟩
          go_wp2_with fail
          go_ret
          exact ⟨rfl, (HX.out.trans hz6).trans hy7⟩
        · obtain ⟨qb, qc, rfl, ql, qs⟩ := opt_one (m2 rfl) hq5
          have gS : (SS.toList == SS.toList) = true := by simp
          have gS2 : (SS.toList != SS.toList) = false := by simp
          clear m1 m2 k5 hq5
          go_wp2_with fail
          refine (HSG.out _ (HX.out.trans hz5)).mono ?_
          rintro e w6 ⟨rfl, hy6⟩
          have hz6 := hz5.trans hy6
          have hb6 := hb5.trans hy6
          obtain ⟨d0, d1, l0⟩ := HBX.out _ (hz6)
          obtain ⟨c0, c1, c2, c3, l1⟩ := HB.out _ (hb6)
          have qs := (hy6.facts.1 _ _ ql).trans qs
          have ql := Nat.lt_of_lt_of_le ql hy6.le
          go_wp2_with fail
          refine (HSH.out _ (HX.out.trans hz6)).mono ?_
          rintro e w7 ⟨rfl, hy7⟩
          go_wp2_with fail
          go_ret
          exact ⟨rfl, (HX.out.trans hz6).trans hy7⟩
      · obtain ⟨rp, rc, rfl, _⟩ := hq5
        have hs1 : s.size = 0 := by omega
        have htl := HLE.out
        clear k5
        go_wp2_with fail
        refine (HSG.out _ (HX.out.trans hz5)).mono ?_
        rintro e w6 ⟨rfl, hy6⟩
        have hz6 := hz5.trans hy6
        have hb6 := hb5.trans hy6
        obtain ⟨d0, d1, l0⟩ := HBX.out _ (hz6)
        obtain ⟨c0, c1, c2, c3, l1⟩ := HB.out _ (hb6)
        go_wp2_with fail
        refine (HSH.out _ (HX.out.trans hz6)).mono ?_
        rintro e w7 ⟨rfl, hy7⟩
        go_wp2_with fail
        go_ret
        exact ⟨rfl, (HX.out.trans hz6).trans hy7⟩
    · have hv0 := HV.out hE0
      have gE : (E != 0) = true := by rw [bne_iff_ne]; exact hE0
      have he := HE.out hE0
      subst hv0
      clear HK HV HE
      by_cases hd0 : DE = 0
      · subst hd0
        obtain rfl : E = 20 := he.resolve_left (fun c => c rfl)
        clear he hE0
        go_enter Tryd.func7, Tryd.ntmps7
        go_wp2_with fail
        refine HAL.out.mono ?_
        rintro e w1 ⟨rfl, hy1⟩
        have HB := Lib.hid (fun W (hW : Ext (w1.alloc (.cells #[.int .u8 6, .string ⟨#[]⟩, .string ⟨#[]⟩, .int .i64 n] 36)) W) => (⟨hW.cell0 0, hW.cell0 1, hW.cell0 2, hW.cell0 3, hW.lt0⟩ : W.cell? ⟨w1.heap.size, 0, none⟩ = some (.int .u8 6) ∧ W.cell? ⟨w1.heap.size, 1, none⟩ = some (.string ⟨#[]⟩) ∧ W.cell? ⟨w1.heap.size, 2, none⟩ = some (.string ⟨#[]⟩) ∧ W.cell? ⟨w1.heap.size, 3, none⟩ = some (.int .i64 n) ∧ w1.heap.size < W.heap.size))
        have hz1 := hy1.alloc (.cells #[.int .u8 6, .string ⟨#[]⟩, .string ⟨#[]⟩, .int .i64 n] 36)
        obtain ⟨d0, d1, l0⟩ := HBX.out _ hz1
        go_wp2_with fail
        refine (HPT.out _ (HX.out.trans hz1)).mono ?_
        rintro e w2 ⟨rfl, hy2⟩
        have hz2 := hz1.trans hy2
        obtain ⟨d0, d1, l0⟩ := HBX.out _ (hz2)
        obtain ⟨c0, c1, c2, c3, l1⟩ := HB.out _ (hy2)
        go_wp2_with fail
        refine (HFR.out _ (HX.out.trans hz2)).mono ?_
        rintro e w3 ⟨rfl, hy3⟩
        have hz3 := hz2.trans hy3
        have hb3 := hy2.trans hy3
        obtain ⟨d0, d1, l0⟩ := HBX.out _ (hz3)
        obtain ⟨c0, c1, c2, c3, l1⟩ := HB.out _ (hb3)
        go_wp2_with fail
        refine (HWH.out _ (HX.out.trans hz3)).mono ?_
        rintro e w4 ⟨rfl, hy4⟩
        have hz4 := hz3.trans hy4
        have hb4 := hb3.trans hy4
        obtain ⟨d0, d1, l0⟩ := HBX.out _ (hz4)
        obtain ⟨c0, c1, c2, c3, l1⟩ := HB.out _ (hb4)
        go_wp2_with fail
        go_ret
        exact ⟨rfl, HX.out.trans hz4⟩
      · have gD : (DE != 0) = true := by rw [bne_iff_ne]; exact hd0
        clear he hE0 hd0
        go_enter Tryd.func7, Tryd.ntmps7
        go_wp2_with fail
        refine HAL.out.mono ?_
        rintro e w1 ⟨rfl, hy1⟩
        have HB := Lib.hid (fun W (hW : Ext (w1.alloc (.cells #[.int .u8 6, .string ⟨#[]⟩, .string ⟨#[]⟩, .int .i64 n] 36)) W) => (⟨hW.cell0 0, hW.cell0 1, hW.cell0 2, hW.cell0 3, hW.lt0⟩ : W.cell? ⟨w1.heap.size, 0, none⟩ = some (.int .u8 6) ∧ W.cell? ⟨w1.heap.size, 1, none⟩ = some (.string ⟨#[]⟩) ∧ W.cell? ⟨w1.heap.size, 2, none⟩ = some (.string ⟨#[]⟩) ∧ W.cell? ⟨w1.heap.size, 3, none⟩ = some (.int .i64 n) ∧ w1.heap.size < W.heap.size))
        have hz1 := hy1.alloc (.cells #[.int .u8 6, .string ⟨#[]⟩, .string ⟨#[]⟩, .int .i64 n] 36)
        obtain ⟨d0, d1, l0⟩ := HBX.out _ hz1
        go_wp2_with fail
        refine (HPT.out _ (HX.out.trans hz1)).mono ?_
        rintro e w2 ⟨rfl, hy2⟩
        have hz2 := hz1.trans hy2
        obtain ⟨d0, d1, l0⟩ := HBX.out _ (hz2)
        obtain ⟨c0, c1, c2, c3, l1⟩ := HB.out _ (hy2)
        go_wp2_with fail
        refine (HFR.out _ (HX.out.trans hz2)).mono ?_
        rintro e w3 ⟨rfl, hy3⟩
        have hz3 := hz2.trans hy3
        have hb3 := hy2.trans hy3
        obtain ⟨d0, d1, l0⟩ := HBX.out _ (hz3)
        obtain ⟨c0, c1, c2, c3, l1⟩ := HB.out _ (hb3)
        go_wp2_with fail
        refine (HWH.out _ (HX.out.trans hz3)).mono ?_
        rintro e w4 ⟨rfl, hy4⟩
        have hz4 := hz3.trans hy4
        have hb4 := hb3.trans hy4
        obtain ⟨d0, d1, l0⟩ := HBX.out _ (hz4)
        obtain ⟨c0, c1, c2, c3, l1⟩ := HB.out _ (hb4)
        go_wp2_with fail
        go_ret
        exact ⟨rfl, HX.out.trans hz4⟩
  · have hD1 : dE A s n = frontE A s n := if_neg hz
    have hD2 : dS A s n = frontS A s n := if_neg hz
    rw [← hD1, ← hD2] at HFR
    have gz : (n == 0) = false := by rw [beq_eq_false_iff_ne]; exact hz
    obtain ⟨V, hV9⟩ : ∃ V, putS A v s (dblA n) = V := ⟨_, rfl⟩
    obtain ⟨E, hE9⟩ : ∃ E, putE A v s (dblA n) = E := ⟨_, rfl⟩
    obtain ⟨O, hO9⟩ : ∃ O, oneE A v s (dblA n) = O := ⟨_, rfl⟩
    obtain ⟨T, hT9⟩ : ∃ T, offS A v s (dblA n) = T := ⟨_, rfl⟩
    obtain ⟨DE, hDE9⟩ : ∃ DE, dE A s n = DE := ⟨_, rfl⟩
    obtain ⟨DS, hDS9⟩ : ∃ DS, dS A s n = DS := ⟨_, rfl⟩
    obtain ⟨SE, hSE9⟩ : ∃ SE, singleE A s n = SE := ⟨_, rfl⟩
    obtain ⟨SS, hSS9⟩ : ∃ SS, singleS A s n = SS := ⟨_, rfl⟩
    obtain ⟨SB, hSB9⟩ : ∃ SB, singleB A s n = SB := ⟨_, rfl⟩
    rw [hV9, hE9] at HPT
    rw [hT9, hO9] at HOF
    rw [hSE9, hSS9, hSB9] at HSG
    rw [hDE9, hDS9] at HFR
    rw [hE9, hDE9] at HE
    rw [hE9, hDE9, hDS9, hV9, hSE9, hO9, hSB9, hT9, hSS9] at HK
    rw [hE9, hV9] at HV
    rw [hT9] at HLE
    clear hV9 hE9 hO9 hT9 hDE9 hDS9 hSE9 hSS9 hSB9 hD1 hD2 hz
    by_cases hE0 : E = 0
    · subst hE0
      obtain ⟨k1, k2, k3, k4, k5⟩ := HK.out rfl
      subst k1 k2 k3 k4
      have gV : (DS.toList == DS.toList) = true := by simp
      have gV2 : (DS.toList != DS.toList) = false := by simp
      clear HK HE HV
      go_enter Tryd.func7, Tryd.ntmps7
      go_wp2_with fail
      refine HAL.out.mono ?_
      rintro e w1 ⟨rfl, hy1⟩
      have HB := Lib.hid (fun W (hW : Ext (w1.alloc (.cells #[.int .u8 6, .string ⟨#[]⟩, .string ⟨#[]⟩, .int .i64 n] 36)) W) => (⟨hW.cell0 0, hW.cell0 1, hW.cell0 2, hW.cell0 3, hW.lt0⟩ : W.cell? ⟨w1.heap.size, 0, none⟩ = some (.int .u8 6) ∧ W.cell? ⟨w1.heap.size, 1, none⟩ = some (.string ⟨#[]⟩) ∧ W.cell? ⟨w1.heap.size, 2, none⟩ = some (.string ⟨#[]⟩) ∧ W.cell? ⟨w1.heap.size, 3, none⟩ = some (.int .i64 n) ∧ w1.heap.size < W.heap.size))
      have hz1 := hy1.alloc (.cells #[.int .u8 6, .string ⟨#[]⟩, .string ⟨#[]⟩, .int .i64 n] 36)
      obtain ⟨d0, d1, l0⟩ := HBX.out _ hz1
      go_wp2_with fail
      refine (HPT.out _ (HX.out.trans hz1)).mono ?_
      rintro e w2 ⟨rfl, hy2⟩
      have hz2 := hz1.trans hy2
      obtain ⟨d0, d1, l0⟩ := HBX.out _ (hz2)
      obtain ⟨c0, c1, c2, c3, l1⟩ := HB.out _ (hy2)
      go_wp2_with fail
      refine (HFR.out _ (HX.out.trans hz2)).mono ?_
      rintro e w3 ⟨rfl, hy3⟩
      have hz3 := hz2.trans hy3
      have hb3 := hy2.trans hy3
      obtain ⟨d0, d1, l0⟩ := HBX.out _ (hz3)
      obtain ⟨c0, c1, c2, c3, l1⟩ := HB.out _ (hb3)
      have hz4 := hz3
      have hb4 := hb3
      go_wp2_with fail
      refine (HOF.out _ (HX.out.trans hz4)).mono ?_
      rintro e w5 ⟨hq5, hy5⟩
      have hz5 := hz4.trans hy5
      have hb5 := hb4.trans hy5
      obtain ⟨d0, d1, l0⟩ := HBX.out _ (hz5)
      obtain ⟨c0, c1, c2, c3, l1⟩ := HB.out _ (hb5)
      by_cases hs0 : 0 < s.size
      · obtain ⟨m1, m2⟩ := k5 hs0
        cases SB
        · have hT0 : T = [] := by
            have h1 := HLE.out
            have h2 : ¬ T.length = 1 := fun h => absurd (m1.2 h) (by decide)
            exact List.eq_nil_of_length_eq_zero (by omega)
          subst hT0
          obtain ⟨qp, qc, rfl⟩ := opt_nil rfl hq5
          clear m1 m2 k5
          go_wp2_with fail
          refine (HSG.out _ (HX.out.trans hz5)).mono ?_
          rintro e w6 ⟨rfl, hy6⟩
          have hz6 := hz5.trans hy6
          have hb6 := hb5.trans hy6
          obtain ⟨d0, d1, l0⟩ := HBX.out _ (hz6)
          obtain ⟨c0, c1, c2, c3, l1⟩ := HB.out _ (hb6)
          go_wp2_with fail
          refine (HSH.out _ (HX.out.trans hz6)).mono ?_
          rintro e w7 ⟨rfl, hy7⟩
          go_wp2_with fail
          go_ret
          exact ⟨rfl, (HX.out.trans hz6).trans hy7⟩
        · obtain ⟨qb, qc, rfl, ql, qs⟩ := opt_one (m2 rfl) hq5
          have gS : (SS.toList == SS.toList) = true := by simp
          have gS2 : (SS.toList != SS.toList) = false := by simp
          clear m1 m2 k5 hq5
          go_wp2_with fail
          refine (HSG.out _ (HX.out.trans hz5)).mono ?_
          rintro e w6 ⟨rfl, hy6⟩
          have hz6 := hz5.trans hy6
          have hb6 := hb5.trans hy6
          obtain ⟨d0, d1, l0⟩ := HBX.out _ (hz6)
          obtain ⟨c0, c1, c2, c3, l1⟩ := HB.out _ (hb6)
          have qs := (hy6.facts.1 _ _ ql).trans qs
          have ql := Nat.lt_of_lt_of_le ql hy6.le
          go_wp2_with fail
          refine (HSH.out _ (HX.out.trans hz6)).mono ?_
          rintro e w7 ⟨rfl, hy7⟩
          go_wp2_with fail
          go_ret
          exact ⟨rfl, (HX.out.trans hz6).trans hy7⟩
      · obtain ⟨rp, rc, rfl, _⟩ := hq5
        have hs1 : s.size = 0 := by omega
        have htl := HLE.out
        clear k5
        go_wp2_with fail
        refine (HSG.out _ (HX.out.trans hz5)).mono ?_
        rintro e w6 ⟨rfl, hy6⟩
        have hz6 := hz5.trans hy6
        have hb6 := hb5.trans hy6
        obtain ⟨d0, d1, l0⟩ := HBX.out _ (hz6)
        obtain ⟨c0, c1, c2, c3, l1⟩ := HB.out _ (hb6)
        go_wp2_with fail
        refine (HSH.out _ (HX.out.trans hz6)).mono ?_
        rintro e w7 ⟨rfl, hy7⟩
        go_wp2_with fail
        go_ret
        exact ⟨rfl, (HX.out.trans hz6).trans hy7⟩
    · have hv0 := HV.out hE0
      have gE : (E != 0) = true := by rw [bne_iff_ne]; exact hE0
      have he := HE.out hE0
      subst hv0
      clear HK HV HE
      by_cases hd0 : DE = 0
      · subst hd0
        obtain rfl : E = 20 := he.resolve_left (fun c => c rfl)
        clear he hE0
        go_enter Tryd.func7, Tryd.ntmps7
        go_wp2_with fail
        refine HAL.out.mono ?_
        rintro e w1 ⟨rfl, hy1⟩
        have HB := Lib.hid (fun W (hW : Ext (w1.alloc (.cells #[.int .u8 6, .string ⟨#[]⟩, .string ⟨#[]⟩, .int .i64 n] 36)) W) => (⟨hW.cell0 0, hW.cell0 1, hW.cell0 2, hW.cell0 3, hW.lt0⟩ : W.cell? ⟨w1.heap.size, 0, none⟩ = some (.int .u8 6) ∧ W.cell? ⟨w1.heap.size, 1, none⟩ = some (.string ⟨#[]⟩) ∧ W.cell? ⟨w1.heap.size, 2, none⟩ = some (.string ⟨#[]⟩) ∧ W.cell? ⟨w1.heap.size, 3, none⟩ = some (.int .i64 n) ∧ w1.heap.size < W.heap.size))
        have hz1 := hy1.alloc (.cells #[.int .u8 6, .string ⟨#[]⟩, .string ⟨#[]⟩, .int .i64 n] 36)
        obtain ⟨d0, d1, l0⟩ := HBX.out _ hz1
        go_wp2_with fail
        refine (HPT.out _ (HX.out.trans hz1)).mono ?_
        rintro e w2 ⟨rfl, hy2⟩
        have hz2 := hz1.trans hy2
        obtain ⟨d0, d1, l0⟩ := HBX.out _ (hz2)
        obtain ⟨c0, c1, c2, c3, l1⟩ := HB.out _ (hy2)
        go_wp2_with fail
        refine (HFR.out _ (HX.out.trans hz2)).mono ?_
        rintro e w3 ⟨rfl, hy3⟩
        have hz3 := hz2.trans hy3
        have hb3 := hy2.trans hy3
        obtain ⟨d0, d1, l0⟩ := HBX.out _ (hz3)
        obtain ⟨c0, c1, c2, c3, l1⟩ := HB.out _ (hb3)
        have hz4 := hz3
        have hb4 := hb3
        go_wp2_with fail
        go_ret
        exact ⟨rfl, HX.out.trans hz4⟩
      · have gD : (DE != 0) = true := by rw [bne_iff_ne]; exact hd0
        clear he hE0 hd0
        go_enter Tryd.func7, Tryd.ntmps7
        go_wp2_with fail
        refine HAL.out.mono ?_
        rintro e w1 ⟨rfl, hy1⟩
        have HB := Lib.hid (fun W (hW : Ext (w1.alloc (.cells #[.int .u8 6, .string ⟨#[]⟩, .string ⟨#[]⟩, .int .i64 n] 36)) W) => (⟨hW.cell0 0, hW.cell0 1, hW.cell0 2, hW.cell0 3, hW.lt0⟩ : W.cell? ⟨w1.heap.size, 0, none⟩ = some (.int .u8 6) ∧ W.cell? ⟨w1.heap.size, 1, none⟩ = some (.string ⟨#[]⟩) ∧ W.cell? ⟨w1.heap.size, 2, none⟩ = some (.string ⟨#[]⟩) ∧ W.cell? ⟨w1.heap.size, 3, none⟩ = some (.int .i64 n) ∧ w1.heap.size < W.heap.size))
        have hz1 := hy1.alloc (.cells #[.int .u8 6, .string ⟨#[]⟩, .string ⟨#[]⟩, .int .i64 n] 36)
        obtain ⟨d0, d1, l0⟩ := HBX.out _ hz1
        go_wp2_with fail
        refine (HPT.out _ (HX.out.trans hz1)).mono ?_
        rintro e w2 ⟨rfl, hy2⟩
        have hz2 := hz1.trans hy2
        obtain ⟨d0, d1, l0⟩ := HBX.out _ (hz2)
        obtain ⟨c0, c1, c2, c3, l1⟩ := HB.out _ (hy2)
        go_wp2_with fail
        refine (HFR.out _ (HX.out.trans hz2)).mono ?_
        rintro e w3 ⟨rfl, hy3⟩
        have hz3 := hz2.trans hy3
        have hb3 := hy2.trans hy3
        obtain ⟨d0, d1, l0⟩ := HBX.out _ (hz3)
        obtain ⟨c0, c1, c2, c3, l1⟩ := HB.out _ (hb3)
        have hz4 := hz3
        have hb4 := hb3
        go_wp2_with fail
        go_ret
        exact ⟨rfl, HX.out.trans hz4⟩
end Go.Proofs.YtkmfhcjdaglikaaDoor
