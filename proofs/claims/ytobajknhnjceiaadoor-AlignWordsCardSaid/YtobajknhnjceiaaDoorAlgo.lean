/- The law AlignWords holds (its walk). -/
import Derived.Test.YtobajknhnjceiaaDoorAlgn
import Derived.Test.YtobajknhnjceiaaDoorAlgu
import Derived.Test.YtobajknhnjceiaaDoorAlgv
import Derived.Test.YtobajknhnjceiaaDoorHeld
import Derived.OneCell
namespace Go.Cg
open Go.RowKit
theorem own_some {w : World} {B : Nat} {e : TypeId} {size n : Nat} {p : Option Addr} {c : Nat} {xs : List Value} (h : w.ownsRow B e size (.slice p n c) n xs) (h0 : 0 < n) : ∃ g, p = some ⟨g, 0, none⟩ ∧ n ≤ c ∧ B ≤ g := by
  rcases h.2 with ⟨_, hn⟩ | ⟨g, cap, cur, hv, hb, hg, hn, hc, _⟩
  · omega
  · simp only [Value.slice.injEq, true_and] at hv
    obtain ⟨rfl, rfl⟩ := hv
    exact ⟨g, rfl, hn, hb⟩
theorem own_ge' {w : World} {B : Nat} {e : TypeId} {k n g : Nat} {v : Value} {xs : List Value} (h : w.ownsRow B e k v n xs) (hg : g < B) : v.ownBlock ≠ some g := by
  rcases h.2 with ⟨rfl, _⟩ | ⟨g', cap, cur, rfl, hb, _⟩
  · intro h; cases h
  · intro h
    simp only [Value.ownBlock, Option.some.injEq] at h
    omega
end Go.Cg
namespace Go.Proofs.YtobajknhnjceiaaDoor
open Go.RowKit Go.Cg Go.Shelf Go.Maps

set_option maxRecDepth 100000 in
set_option maxHeartbeats 4000000 in
theorem alignWords_any (fp lp : Option Addr) (fc lc : Nat) (A : Alpha) (x : ByteArray) (hx : x.size ≤ 140737488351232) (y : ByteArray) (hy : y.size ≤ 140737488351232) (n : Int) (pp : Option Addr) (pcap : Nat) (l : List (Int × Int)) (w : World) (hA : AlphaAt w fp lp A) (hP : PairsAt w pp l) (hLb8 : l.length ≤ 17592186044416) (hTb : Tabs w) :
    Calls Tryd.prog 6 #[.agg #[.slice fp A.feats.length fc, .slice lp A.lets.length lc], .string x, .string y, .int .i64 n, .slice pp l.length pcap] w fun e w' => e = .returned (.bool true) ∧ Ext w w' := by
  have hx3 : Ext w (w.alloc (.cells #[.slice fp A.feats.length fc, .slice lp A.lets.length lc] 25)) := (Ext.refl _).alloc _
  obtain ⟨i0, hi, hz0, hz1, hz2⟩ := info_parts infoPa
  have HBX := Lib.hid (fun W (hW : Ext (w.alloc (.cells #[.slice fp A.feats.length fc, .slice lp A.lets.length lc] 25)) W) => (⟨hW.cell0 0, hW.cell0 1, hW.lt0⟩ : W.cell? ⟨w.heap.size, 0, none⟩ = some (.slice fp A.feats.length fc) ∧ W.cell? ⟨w.heap.size, 1, none⟩ = some (.slice lp A.lets.length lc) ∧ w.heap.size < W.heap.size))
  have h1 := fun W (hW : Ext w W) => words_any fp lp fc lc A x y hx hy W (hA.mono hW) (hTb.ext hW)
  have h2 := fun W (hW : Ext w W) => words21_any fp lp fc lc A x y hx hy W (hA.mono hW) (hTb.ext hW)
  have h3 := fun W (hW : Ext w W) => many_any fp lp fc lc A x y n hx hy W (hA.mono hW) (hTb.ext hW)
  have h4 := fun W (hW : Ext w W) => many21_any fp lp fc lc A x y n hx hy W (hA.mono hW) (hTb.ext hW)
  have h5 := fun mp mc W (hW : Ext w W) (hm : PairsAt W mp l) => sum_any fp lp mp fc lc mc A l W (hA.mono hW) hm
  have h6 := fun W (hW : Ext w W) => sum21_any fp lp pp fc lc pcap A l W (hA.mono hW) (hP.mono hW)
  have h7 := fun mp mc W (hW : Ext w W) (hm : PairsAt W mp l) => both_any fp lp mp fc lc mc A l W (hA.mono hW) hm
  have h8 := fun W (hW : Ext w W) => both21_any fp lp pp fc lc pcap A l W (hA.mono hW) (hP.mono hW)
  have h128 := twoP_len A x y
  obtain ⟨a1, q1⟩ : ∃ v, twoC A x y = v := ⟨_, rfl⟩
  obtain ⟨a2, q2⟩ : ∃ v, twoE A x y = v := ⟨_, rfl⟩
  obtain ⟨P, q3⟩ : ∃ v, twoP A x y = v := ⟨_, rfl⟩
  obtain ⟨a4, q4⟩ : ∃ v, manyN A x y n = v := ⟨_, rfl⟩
  obtain ⟨a5, q5⟩ : ∃ v, manyE A x y n = v := ⟨_, rfl⟩
  obtain ⟨a6, q6⟩ : ∃ v, sumN A l = v := ⟨_, rfl⟩
  obtain ⟨a7, q7⟩ : ∃ v, sumE A l = v := ⟨_, rfl⟩
  obtain ⟨U, q8⟩ : ∃ v, bothX A l = v := ⟨_, rfl⟩
  obtain ⟨V, q9⟩ : ∃ v, bothY A l = v := ⟨_, rfl⟩
  rw [q1, q2, q3] at h1 h2
  rw [q3] at h128
  rw [q4, q5] at h3 h4
  rw [q6, q7] at h5 h6
  rw [q7, q8, q9] at h7 h8
  have H1 := Lib.hid h1
  have H2 := Lib.hid h2
  have H3 := Lib.hid h3
  have H4 := Lib.hid h4
  have H5 := Lib.hid h5
  have H6 := Lib.hid h6
  have H7 := Lib.hid h7
  have H8 := Lib.hid h8
  have hLb := hP.big
  clear h1 h2 h3 h4 h5 h6 h7 h8 q1 q2 q3 q4 q5 q6 q7 q8 q9
  go_enter Tryd.func6, Tryd.ntmps6
  go_wp2_with (first
    | (go_at_call 15; refine (awake21_any _).mono ?_; rintro _ w1 ⟨rfl, hx1⟩; obtain ⟨d0, d1, l0⟩ := HBX.out _ hx1)
    | (at_builtin; go_loud (refine wpList_append_copy _ rfl _ _ 33 rfl 44 i0 (.agg #[.int .i32 0, .int .i32 0]) 2 8 Tryd.underlying33 hi hz0 hz1 hz2 rfl (by decide) rfl pp l.length pcap (pairRow l) rfl (pairRow_len l) (pairs_news (hP.mono (hx3.trans hx1))) (pairRow_one l) (by unfold maxLen; omega) (by omega) ?_); intro v' w2 hown hgrow; obtain ⟨mp, mc, rfl⟩ := ownsRow_slice hown; have hx2 : Ext w1 w2 := (Ext.refl _).grown hgrow (by intro k h; cases h); obtain ⟨d0, d1, l0⟩ := HBX.out _ (hx1.trans hx2)))
  have hM : PairsAt w2 mp l := (show OwnPairs 44 w1.heap.size w2 mp mc l from ⟨hown, hP.big, hP.wf⟩).at_
  have hb := hx1.trans hx2
  have hbw : Ext w w2 := hx3.trans hb
  clear hown hgrow hx1 hx2
  refine (H1.out _ hbw).mono ?_
  rintro _ w3 ⟨tp, tc', rfl, hop1, hx4⟩
  obtain ⟨d0, d1, l0⟩ := HBX.out _ (hb.trans hx4)
  go_wp2_with fail
  refine (H2.out _ (hbw.trans hx4)).mono ?_
  rintro _ w4 ⟨qp, qc, rfl, hop2, hx5⟩
  have hgl : ∀ g, tp = some ⟨g, 0, none⟩ → g < w3.heap.size := fun g hg => (hop1.1.lt g (by rw [hg]; rfl)).2
  have HGL := Lib.hid hgl
  have hwf := Lib.hid hop1.2.2
  have hown1 := ownsRow_ext hop1.1 hx5
  have hown2 := hop2.1
  have hy4 := hx4.trans hx5
  clear hgl hop1 hop2 hx4 hx5
  obtain ⟨d0, d1, l0⟩ := HBX.out _ (hb.trans hy4)
  go_wp2_with fail
  refine (H3.out _ (hbw.trans hy4)).mono ?_
  rintro _ w5 ⟨rfl, hx6⟩
  replace hy4 := hy4.trans hx6
  replace hown1 := ownsRow_ext hown1 hx6
  replace hown2 := ownsRow_ext hown2 hx6
  clear hx6
  obtain ⟨d0, d1, l0⟩ := HBX.out _ (hb.trans hy4)
  go_wp2_with fail
  refine (H4.out _ (hbw.trans hy4)).mono ?_
  rintro _ w6 ⟨rfl, hx6⟩
  replace hy4 := hy4.trans hx6
  replace hown1 := ownsRow_ext hown1 hx6
  replace hown2 := ownsRow_ext hown2 hx6
  clear hx6
  obtain ⟨d0, d1, l0⟩ := HBX.out _ (hb.trans hy4)
  go_wp2_with fail
  refine (H5.out mp mc _ (hbw.trans hy4) (hM.mono hy4)).mono ?_
  rintro _ w7 ⟨rfl, hx6⟩
  replace hy4 := hy4.trans hx6
  replace hown1 := ownsRow_ext hown1 hx6
  replace hown2 := ownsRow_ext hown2 hx6
  clear hx6
  obtain ⟨d0, d1, l0⟩ := HBX.out _ (hb.trans hy4)
  go_wp2_with fail
  refine (H6.out _ (hbw.trans hy4)).mono ?_
  rintro _ w8 ⟨rfl, hx6⟩
  replace hy4 := hy4.trans hx6
  replace hown1 := ownsRow_ext hown1 hx6
  replace hown2 := ownsRow_ext hown2 hx6
  clear hx6
  obtain ⟨d0, d1, l0⟩ := HBX.out _ (hb.trans hy4)
  go_wp2_with fail
  refine (H7.out mp mc _ (hbw.trans hy4) (hM.mono hy4)).mono ?_
  rintro _ w9 ⟨rfl, hx6⟩
  replace hy4 := hy4.trans hx6
  replace hown1 := ownsRow_ext hown1 hx6
  replace hown2 := ownsRow_ext hown2 hx6
  clear hx6
  obtain ⟨d0, d1, l0⟩ := HBX.out _ (hb.trans hy4)
  go_wp2_with fail
  refine (H8.out _ (hbw.trans hy4)).mono ?_
  rintro _ w10 ⟨rfl, hx6⟩
  replace hy4 := hy4.trans hx6
  replace hown1 := ownsRow_ext hown1 hx6
  replace hown2 := ownsRow_ext hown2 hx6
  clear hx6 d0 d1 l0
  have hP1 : PairsAt w10 tp P := (show OwnPairs 44 w2.heap.size w10 tp tc' P from ⟨hown1, by omega, hwf.out⟩).at_
  have hP2 : PairsAt w10 qp P := (show OwnPairs 44 w3.heap.size w10 qp qc P from ⟨hown2, by omega, hwf.out⟩).at_
  have HSA := Lib.hid (same_any tp qp tc' qc P w10 hP1 hP2)
  clear hP1 hP2
  go_wp2_with fail
  refine HSA.out.mono ?_
  rintro _ w11 ⟨rfl, hx6⟩
  replace hy4 := hy4.trans hx6
  replace hown1 := ownsRow_ext hown1 hx6
  replace hown2 := ownsRow_ext hown2 hx6
  clear hx6 HSA
  go_wp2_with fail
  have HO1 := Lib.hid hown1
  have HO2 := Lib.hid hown2
  clear hown1 hown2
  go_loopw [34] (fun i wr => ∃ k : Nat, k ≤ P.length ∧ i = .int .i64 k ∧ Ext w2 wr ∧ (∃ xs, wr.ownsRow w2.heap.size 44 2 (.slice tp P.length tc') P.length xs) ∧ wr.ownsRow w3.heap.size 44 2 (.slice qp P.length qc) P.length (pairRow P)) (fun i _ => P.length - (intOf i).toNat)
  case atStart => exact ⟨0, Nat.zero_le _, rfl, hy4, ⟨_, HO1.out⟩, HO2.out⟩
  case round =>
    obtain ⟨k, hk, rfl, hxk, ⟨xs, hrow⟩, hrow2⟩ := hrel
    by_cases hlt : k < P.length
    · obtain ⟨g, e0, hgc, hgb⟩ := own_some hrow (by omega)
      subst e0
      have hg1 := HGL.out g rfl
      have c0 := hrow.cellAt (k * 2) (by omega)
      have hxl := hrow.1
      rw [List.getElem?_eq_getElem (by rw [hxl]; omega)] at c0
      have f0 := hrow.frozenAt (k * 2)
      have hlw := (hrow.lt g rfl).2
      generalize xs[k * 2]'_ = x0 at c0
      go_wp2_with fail
      exact ⟨⟨k + 1, by omega, by go_num, hxk.setCell hgb _, ⟨_, (hrow.stored (k * 2) _).1⟩, ownsRow_setCell_other hrow2 (own_ge' hrow2 hg1) _⟩, by simp [intOf]; omega⟩
    · have e : k = P.length := by omega
      subst e
      have hP2 : PairsAt wr qp P := (show OwnPairs 44 w3.heap.size wr qp qc P from ⟨hrow2, by omega, hwf.out⟩).at_
      obtain ⟨d0, d1, l0⟩ := HBX.out _ (hb.trans hxk)
      have hxw := hbw.trans hxk
      have hMk := hM.mono hxk
      have hPk := hP.mono hxw
      clear hrow hrow2
      go_wp2_with fail
      refine (H1.out _ hxw).mono ?_
      rintro _ w12 ⟨up, uc, rfl, hop3, hx6⟩
      have hSA := same_any mp pp mc pcap l w12 (hMk.mono hx6) (hPk.mono hx6)
      have hPU := hop3.at_
      clear hop3
      go_wp2_with fail
      refine hSA.mono ?_
      rintro _ w13 ⟨rfl, hx7⟩
      have hSB := same_any up qp uc qc P w13 (hPU.mono hx7) (hP2.mono (hx6.trans hx7))
      clear hSA
      go_wp2_with fail
      refine hSB.mono ?_
      rintro _ w14 ⟨rfl, hx8⟩
      clear hSB
      go_wp2_with fail
      go_ret
      exact ⟨rfl, ((hxw.trans hx6).trans hx7).trans hx8⟩

end Go.Proofs.YtobajknhnjceiaaDoor
