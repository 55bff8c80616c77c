/- The law AlignNear holds (its walk). -/
import Derived.Test.YtobajknhnjceiaaDoorAlgg
import Derived.Test.YtobajknhnjceiaaDoorAlgj
namespace Go.Proofs.YtobajknhnjceiaaDoor
open Go.RowKit Go.Cg Go.Shelf Go.Maps

theorem ln_zero {A : Alpha} {s : ByteArray} {L : List ByteArray} (h : lnE A s L = 0) : 0 < L.length ∧ (∀ j, j < L.length → twoE A s (txt L j) = 0) ∧ lnN A s L < L.length ∧ lnC A s L = lnF A s L (lnN A s L) ∧ (∀ j, j < L.length → lnC A s L ≤ lnF A s L j) ∧ ∀ j, j < lnN A s L → lnC A s L < lnF A s L j := by
  have hN : lnN A s L = bN (lnF A s L) L.length := if_pos h
  have hC : lnC A s L = bC (lnF A s L) L.length := if_pos h
  unfold lnE at h
  by_cases h0 : ltrE A s = 0
  · rw [if_neg (fun k => k h0)] at h
    split at h
    · cases h
    · by_cases h1 : errL A L = 0
      · rw [if_neg (fun k => k h1)] at h
        by_cases h2 : L.length = 0
        · rw [if_pos h2] at h; cases h
        · have hb := bestIdx_le (lnF A s L) (L.length - 1)
          have hN2 : lnN A s L = bestIdx (lnF A s L) (L.length - 1) := hN.trans (if_neg h2)
          have hC2 : lnC A s L = lnF A s L (bestIdx (lnF A s L) (L.length - 1)) := hC.trans (if_neg h2)
          refine ⟨by omega, fun j hj => twoE_ok h0 (errL_all h1 j hj), by omega, by rw [hC2, hN2], fun j hj => ?_, fun j hj => ?_⟩
          · rw [hC2]; exact bestIdx_least _ _ _ (by omega)
          · rw [hC2]; rw [hN2] at hj; exact bestIdx_first _ _ _ hj
      · rw [if_pos h1] at h; exact absurd h h1
  · rw [if_pos h0] at h; exact absurd h h0

set_option maxRecDepth 100000 in
set_option maxHeartbeats 4000000 in
theorem alignNear_any (fp lp : Option Addr) (fc lc : Nat) (A : Alpha) (s : ByteArray) (hs : s.size ≤ 140737488351232) (tp : Option Addr) (tcap : Nat) (L : List ByteArray) (w : World) (hA : AlphaAt w fp lp A) (hL : TextsAt w tp L) (hTb : Tabs w) :
    Calls Tryd.prog 5 #[.agg #[.slice fp A.feats.length fc, .slice lp A.lets.length lc], .string s, .slice tp L.length tcap] w fun e w' => e = .returned (.bool true) ∧ Ext w w' := by
  have hx3 : Ext w (w.alloc (.cells #[.slice fp A.feats.length fc, .slice lp A.lets.length lc] 25)) := (Ext.refl _).alloc _
  have hne := fun W (hW : Ext w W) => nearest_any fp lp fc lc A s hs tp tcap L W (hA.mono hW) (hL.mono hW) (hTb.ext hW)
  have HBX := Lib.hid (fun W (hW : Ext (w.alloc (.cells #[.slice fp A.feats.length fc, .slice lp A.lets.length lc] 25)) W) => (⟨hW.cell0 0, hW.cell0 1, hW.lt0⟩ : W.cell? ⟨w.heap.size, 0, none⟩ = some (.slice fp A.feats.length fc) ∧ W.cell? ⟨w.heap.size, 1, none⟩ = some (.slice lp A.lets.length lc) ∧ w.heap.size < W.heap.size))
  have hw1 := fun k (hk : k < L.length) W (hW : Ext w W) => words_short fp lp fc lc A s (txt L k) hs (hL.small k hk) W (hA.mono hW) (hTb.ext hW)
  have hln := fun h => ln_zero (A := A) (s := s) (L := L) h
  have hnn : lnE A s L ≠ 0 → lnN A s L = 0 ∧ lnC A s L = 0 := fun h => ⟨if_neg h, if_neg h⟩
  have hff : ∀ k, twoC A s (txt L k) = lnF A s L k := fun _ => rfl
  obtain ⟨E, hEE⟩ : ∃ v, lnE A s L = v := ⟨_, rfl⟩
  obtain ⟨N, hNN⟩ : ∃ v, lnN A s L = v := ⟨_, rfl⟩
  obtain ⟨C, hCC⟩ : ∃ v, lnC A s L = v := ⟨_, rfl⟩
  obtain ⟨F, hFF⟩ : ∃ v, lnF A s L = v := ⟨_, rfl⟩
  rw [hEE, hNN, hCC] at hne hnn
  rw [hEE, hNN, hCC, hFF] at hln
  rw [hFF] at hff
  have HNE := Lib.hid hne
  have HLN := Lib.hid hln
  have HNN := Lib.hid hnn
  have HFF := Lib.hid hff
  have HW := Lib.hid hw1
  clear hne hln hnn hff hw1 hEE hNN hCC hFF
  have hLb := hL.big
  by_cases h60 : 60 < L.length
  · have g1 : decide ((L.length : Int) > 60) = true := decide_eq_true (by omega)
    have g2 : decide ((60 : Int) < L.length) = true := decide_eq_true (by omega)
    clear h60
    go_enter Tryd.func5, Tryd.ntmps5
    go_wp2_with (go_at_call 15; refine (awake21_any _).mono ?_; rintro _ w1 ⟨rfl, hx1⟩)
    go_ret
    exact ⟨rfl, hx3.trans hx1⟩
  · have g1 : decide ((L.length : Int) > 60) = false := decide_eq_false (by omega)
    have g2 : decide ((60 : Int) < L.length) = false := decide_eq_false (by omega)
    by_cases hE : E = 0
    · obtain ⟨hl0, hte, hnl, hcn, hcl, hcf⟩ := HLN.out hE
      subst hE
      have g3 : ¬ L.length ≤ N := by omega
      have HTE := Lib.hid hte
      have HCN := Lib.hid hcn
      have HCL := Lib.hid hcl
      have HCF := Lib.hid hcf
      have HNL := Lib.hid hnl
      clear hte hcn hcl hcf hl0 h60 hnl
      go_enter Tryd.func5, Tryd.ntmps5
      go_wp2_with (first | (go_at_call 15; refine (awake21_any _).mono ?_; rintro _ w1 ⟨rfl, hx1⟩; obtain ⟨d0, d1, l0⟩ := HBX.out _ hx1) | (go_at_call 18; refine (HNE.out _ (hx3.trans hx1)).mono ?_; rintro e w2 ⟨rfl, hx2⟩))
      have hxb := hx1.trans hx2
      have hxw := hx3.trans hxb
      clear d0 d1 l0
      go_loopw [11] (fun i wr => ∃ k : Nat, k ≤ L.length ∧ i = .int .i64 k ∧ Ext w2 wr) (fun i _ => L.length - (intOf i).toNat)
      case atStart => exact ⟨0, Nat.zero_le _, rfl, Ext.refl _⟩
      case round =>
        obtain ⟨k, hk, rfl, hx⟩ := hrel
        by_cases hlt : k < L.length
        · obtain ⟨b, off, e0, hbw, c0⟩ := (hL.mono (hxw.trans hx)).cells hlt
          subst e0
          have hwk := HW.out k hlt
          rw [HTE.out k hlt, HFF.out k] at hwk
          have HWK := Lib.hid hwk
          clear hwk
          have hcl := HCL.out k hlt
          have gC : ¬ F k < C := by omega
          have hS4 := fun (W : World) (hW : Ext wr W) => (⟨hW, (HBX.out _ ((hxb.trans hx).trans hW)).1, (HBX.out _ ((hxb.trans hx).trans hW)).2.1, (hW.facts.1 b (off + k) hbw).trans c0⟩ : Ext wr W ∧ W.cell? ⟨w.heap.size, 0, none⟩ = some (.slice fp A.feats.length fc) ∧ W.cell? ⟨w.heap.size, 1, none⟩ = some (.slice lp A.lets.length lc) ∧ W.cell? ⟨b, off + k, none⟩ = some (.string (txt L k)))
          have HS4 := Lib.hid hS4
          have hxk := hxw.trans hx
          clear hS4 hcl
          go_wp2_with fail
          go_region_held3 (fun W => Ext wr W ∧ W.cell? ⟨w.heap.size, 0, none⟩ = some (.slice fp A.feats.length fc) ∧ W.cell? ⟨w.heap.size, 1, none⟩ = some (.slice lp A.lets.length lc) ∧ W.cell? ⟨b, off + k, none⟩ = some (.string (txt L k))) (exact HS4.out _ (by first | assumption | exact Ext.refl _ | exact (Ext.refl _).drew))
            (first
              | (go_at_call 20; refine (HWK.out _ (hxk.drew)).mono ?_; rintro e w3 ⟨wp, wn, wc, rfl, hx4⟩; have hE3 : Ext wr w3 := ((Ext.refl wr).drew).trans hx4))
          by_cases h1 : k < N
          · have gi : k < N := h1
            have gj : ((k : Int) == (N : Int)) = false := by rw [beq_eq_false_iff_ne]; omega
            have hcf := HCF.out k h1
            have gF : ((F k : Int) == (C : Int)) = false := by rw [beq_eq_false_iff_ne]; omega
            clear h1 hcf
            go_wp2_with fail
            exact ⟨⟨k + 1, by omega, by go_num, hx.trans hE3⟩, by simp [intOf]; omega⟩
          · have gi : ¬ k < N := h1
            by_cases h2 : k = N
            · have gj : ((k : Int) == (N : Int)) = true := by rw [beq_iff_eq]; omega
              have gF : ((F k : Int) != (C : Int)) = false := by rw [HCN.out, h2]; simp
              clear h1 h2
              go_wp2_with fail
              exact ⟨⟨k + 1, by omega, by go_num, hx.trans hE3⟩, by simp [intOf]; omega⟩
            · have gj : ((k : Int) == (N : Int)) = false := by rw [beq_eq_false_iff_ne]; omega
              clear h1 h2
              go_wp2_with fail
              exact ⟨⟨k + 1, by omega, by go_num, hx.trans hE3⟩, by simp [intOf]; omega⟩
        · have e : k = L.length := by omega
          subst e
          go_wp2_with fail
          go_ret
          exact ⟨rfl, hxw.trans hx⟩
    · have gE : (E != 0) = true := by rw [bne_iff_ne]; exact hE
      obtain ⟨hn, hc⟩ := HNN.out hE
      subst hn
      subst hc
      clear hE h60
      go_enter Tryd.func5, Tryd.ntmps5
      go_wp2_with (first | (go_at_call 15; refine (awake21_any _).mono ?_; rintro _ w1 ⟨rfl, hx1⟩; obtain ⟨d0, d1, l0⟩ := HBX.out _ hx1) | (go_at_call 18; refine (HNE.out _ (hx3.trans hx1)).mono ?_; rintro e w2 ⟨rfl, hx2⟩))
      go_ret
      exact ⟨rfl, (hx3.trans hx1).trans hx2⟩

end Go.Proofs.YtobajknhnjceiaaDoor
