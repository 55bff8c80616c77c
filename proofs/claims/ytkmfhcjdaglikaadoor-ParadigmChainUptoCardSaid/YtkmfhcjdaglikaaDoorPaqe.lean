/- The law ParadigmChain, walked (PRINTED by mkchain.py). -/
import Derived.Test.YtkmfhcjdaglikaaDoorPaqc
namespace Go.Proofs.YtkmfhcjdaglikaaDoor
open Go.RowKit Go.Cg Go.Shelf Go.Maps

set_option maxRecDepth 100000 in
set_option maxHeartbeats 4000000 in
theorem paradigmChain_any (fp ap : Option Addr) (fc ac : Nat) (A : Alpha) (v : Nat) (hv : v < 4294967296) (pp : Option Addr) (pc : Nat) (P : Para) (g : Nat → Option Addr × Nat) (n : Int) (hn : -9223372036854775808 ≤ n ∧ n ≤ 9223372036854775807) (s : ByteArray) (hs : s.size ≤ 140737488351232) (w : World) (hA : AlphaAt w fp ap A) (hP : CellsAt w pp P.cells g) (hT : Tabs w)
    (hn9 : P.name.size ≤ 140737488351232) (hsm : ∀ k, k < P.cells.length → ∀ j, j < (cx P.cells k).affs.length → (ax (cx P.cells k).affs j).small) :
    Calls Tryd.prog 4 #[.agg #[.slice fp A.feats.length fc, .slice ap A.lets.length ac], .int .u32 v, .agg #[.string P.name, .slice pp P.cells.length pc], .int .i64 n, .string s] w fun e w' => e = .returned (.bool true) ∧ Ext w w' := by
  have hx0 : Ext w (w.alloc (.cells #[.slice fp A.feats.length fc, .slice ap A.lets.length ac] 26)) := (Ext.refl _).alloc _
  obtain ⟨W1, hW1⟩ : ∃ W1, w.alloc (.cells #[.slice fp A.feats.length fc, .slice ap A.lets.length ac] 26) = W1 := ⟨_, rfl⟩
  have hx1 : Ext W1 (W1.alloc (.cells #[.string P.name, .slice pp P.cells.length pc] 32)) := (Ext.refl _).alloc _
  obtain ⟨W2, hW2⟩ : ∃ W2, W1.alloc (.cells #[.string P.name, .slice pp P.cells.length pc] 32) = W2 := ⟨_, rfl⟩
  rw [hW1] at hx0
  rw [hW2] at hx1
  have z1 : W1.heap.size = w.heap.size + 1 := by rw [← hW1, size_alloc]
  have HB := Lib.hid (fun W (hW : Ext W2 W) => (by
    have h := hx1.trans hW
    rw [← hW1] at h
    have h2 := hW
    rw [← hW2] at h2
    have c0 := h2.cell0 0
    have c1 := h2.cell0 1
    have l0 := h2.lt0
    rw [z1] at c0 c1 l0
    exact ⟨h.cell0 0, h.cell0 1, h.lt0, c0, c1, l0⟩ : W.cell? ⟨w.heap.size, 0, none⟩ = some (.slice fp A.feats.length fc) ∧ W.cell? ⟨w.heap.size, 1, none⟩ = some (.slice ap A.lets.length ac) ∧ w.heap.size < W.heap.size ∧ W.cell? ⟨w.heap.size + 1, 0, none⟩ = some (.string P.name) ∧ W.cell? ⟨w.heap.size + 1, 1, none⟩ = some (.slice pp P.cells.length pc) ∧ w.heap.size + 1 < W.heap.size))
  have hwW2 : Ext w W2 := hx0.trans hx1
  have HX := Lib.hid hwW2
  have HAL := Lib.hid (alive17_any W2 (hT.ext hwW2))
  have HMU := Lib.hid (fun W (hW : Ext w W) => much_any pp pc P g s hs W (hP.mono hW))
  have hW2e : (w.alloc (.cells #[.slice fp A.feats.length fc, .slice ap A.lets.length ac] 26)).alloc (.cells #[.string P.name, .slice pp P.cells.length pc] 32) = W2 := by rw [hW1, hW2]
  have hpb := hP.big
  obtain ⟨d0, d1, l0, c0, c1, l1⟩ := HB.out _ (Ext.refl _)
  clear hW1 hW2 hx0 hx1 z1 hwW2
  cases hmu : muchB P s
  case true =>
    rw [hmu] at HMU
    clear hmu
    go_enter Tryd.func4, Tryd.ntmps4
    go_wp2_with fail
    refine HAL.out.mono ?_
    rintro e w1 ⟨rfl, hy1⟩
    clear hW2e d0 d1 l0 c0 c1 l1
    obtain ⟨d0, d1, l0, c0, c1, l1⟩ := HB.out _ hy1
    go_wp2_with fail
    refine (HMU.out _ (HX.out.trans hy1)).mono ?_
    rintro e w2 ⟨rfl, hy2⟩
    go_wp2_with fail
    go_ret
    exact ⟨rfl, HX.out.trans (hy1.trans hy2)⟩
  case false =>
    rw [hmu] at HMU
    clear hmu
    have HFO := Lib.hid (fun (t : ByteArray) (ht : t.size ≤ 140737488351232) W (hW : Ext w W) => form_any fp ap pp fc ac pc A v hv P g n hn.1 hn.2 t ht hn9 hsm W (hA.mono hW) (hT.ext hW) (hP.mono hW))
    have HST := Lib.hid (fun (t : ByteArray) (ht : t.size ≤ 140737488351232) W (hW : Ext w W) => stems_any fp ap pp fc ac pc A v hv P g n hn.1 hn.2 t ht hn9 hsm W (hA.mono hW) (hT.ext hW) (hP.mono hW))
    have HF1 := Lib.hid (HFO.out s hs)
    have HS1 := Lib.hid (HST.out s hs)
    by_cases hce : cellE A v P n s = 0
    · have HFI := Lib.hid (fun t (ht : stemS A v P n s = [t]) W hW => (by
        have h := HFO.out t (Nat.le_trans (stem_size ht) (by decide)) W hW
        obtain ⟨p1, p2⟩ := stem_form ht
        rw [p1, p2] at h
        exact h : Calls Tryd.prog 15 #[.agg #[.slice fp A.feats.length fc, .slice ap A.lets.length ac], .int .u32 v, .agg #[.string P.name, .slice pp P.cells.length pc], .int .i64 n, .string t] W fun e w' => e = .returned (.tuple #[.string s, .int .i64 0]) ∧ Ext W w'))
      obtain ⟨k3, k4, k5, k6, k7⟩ := cellE_ok hce
      have hok := classE_ok1 k3
      obtain ⟨_, hw9, hin, h64⟩ := spell_ok k7
      obtain ⟨m, rfl⟩ : ∃ m : Nat, n = (m : Int) := ⟨n.toNat, by omega⟩
      have hm : m < P.cells.length := by omega
      have h8 := ((parB_affs (parE_ok k4).2).2.2.2 m hm)
      have hstl := stem_len A v P (m : Int) s
      have hwf := (hP.affs m hm).wf
      have HCC := Lib.hid (fun W (hW : Ext w W) => (hP.mono hW).cells hm)
      have HAF := Lib.hid (fun W (hW : Ext w W) => (hP.affs m hm).mono hW)
      have HPT := Lib.hid (fun k (hk : k < (cx P.cells m).affs.length) (c : List Int) (hc : c.length ≤ 256) W (hW : Ext w W) => put_any fp ap fc ac A v hv (runesBytes c) (Nat.le_trans (rb_size_le c) (by omega)) (ax (cx P.cells m).affs k) (hwf k hk) (hsm m hm k hk) W (hA.mono hW) (hT.ext hW))
      have HLG := Lib.hid (fun (c : List Int) (hi : InA A c) (hc : c.length ≤ 256) W => (by
        have h := long17_any (runesBytes c) (Nat.le_trans (rb_size_le c) (by omega)) W
        rw [strR_rb hok hi] at h
        exact h : Calls Tryd.prog 18 #[.string (runesBytes c)] W fun e w' => e = .returned (.int .i64 (c.length : Int)) ∧ Ext W w'))
      have HWC := Lib.hid (fun (c : List Int) (hc : c.length ≤ 256) W (hW : Ext w W) => wdcheck_any fp ap fc ac A (runesBytes c) (Nat.le_trans (rb_size_le c) (by omega)) W (hA.mono hW) (hT.ext hW))
      have HSC := Lib.hid (fun (c : List Int) (hc : c.length ≤ 256) W (hW : Ext w W) => HST.out (runesBytes c) (Nat.le_trans (rb_size_le c) (by omega)) W hW)
      have HGO := Lib.hid (fun k (hk : k < (cx P.cells m).affs.length) c (hc : ChainI A v (cx P.cells m).affs (spell A s).1 k c) (h64 : c.length ≤ 64) (hp : (putC A v (ax (cx P.cells m).affs k) c).2 = 0) => (⟨(chain_put k3 hc.1 (h8.2 k hk) h64).1.trans hp, (chain_put k3 hc.1 (h8.2 k hk) h64).2 hp, chain_next hc hk (h8.2 k hk) hp⟩ : putE A v (runesBytes c) (ax (cx P.cells m).affs k) = 0 ∧ putS A v (runesBytes c) (ax (cx P.cells m).affs k) = runesBytes (putC A v (ax (cx P.cells m).affs k) c).1 ∧ ChainI A v (cx P.cells m).affs (spell A s).1 (k + 1) (putC A v (ax (cx P.cells m).affs k) c).1))
      have HNO := Lib.hid (fun k (hk : k < (cx P.cells m).affs.length) c (hc : ChainI A v (cx P.cells m).affs (spell A s).1 k c) (h64 : c.length ≤ 64) (hp : (putC A v (ax (cx P.cells m).affs k) c).2 ≠ 0) => (⟨by rw [(chain_put k3 hc.1 (h8.2 k hk) h64).1]; exact hp, chain_no hce hc hk hp⟩ : putE A v (runesBytes c) (ax (cx P.cells m).affs k) ≠ 0 ∧ formE A v P (m : Int) s ≠ 0))
      have HLO := Lib.hid (fun k c (hc : ChainI A v (cx P.cells m).affs (spell A s).1 k c) (h64 : ¬ c.length ≤ 64) => (chain_long k3 hc.1 h64 : putE A v (runesBytes c) (ax (cx P.cells m).affs k) ≠ 0))
      have HEN := Lib.hid (fun c (hc : ChainI A v (cx P.cells m).affs (spell A s).1 (cx P.cells m).affs.length c) => chain_form hce hc)
      have HC0 := Lib.hid (chain_0 (v := v) (xs := (cx P.cells m).affs) hin (Nat.le_trans h64 (by decide)))
      have HW9 := Lib.hid hw9
      have hal : (cx P.cells m).affs.length ≤ 8 := h8.1
      rw [hce] at HS1
      obtain ⟨xs, hxs⟩ : ∃ xs, (cx P.cells m).affs = xs := ⟨_, rfl⟩
      rw [hxs] at HCC HAF HPT HGO HNO HLO HEN HC0 hal
      obtain ⟨L0, hL0⟩ : ∃ L0, (spell A s).1 = L0 := ⟨_, rfl⟩
      rw [hL0] at HGO HNO HLO HEN HC0 HW9
      obtain ⟨FS, hFS⟩ : ∃ FS, formS A v P (m : Int) s = FS := ⟨_, rfl⟩
      obtain ⟨FE, hFE⟩ : ∃ FE, formE A v P (m : Int) s = FE := ⟨_, rfl⟩
      obtain ⟨T, hT9⟩ : ∃ T, stemS A v P (m : Int) s = T := ⟨_, rfl⟩
      rw [hFS, hFE] at HF1 HEN
      rw [hFE] at HNO
      rw [hT9] at HS1 HFI hstl
      obtain ⟨tg, htg⟩ : ∃ tg, (cx P.cells m).tags = tg := ⟨_, rfl⟩
      rw [htg] at HCC
      obtain ⟨gm, hgm⟩ : ∃ gm, g m = gm := ⟨_, rfl⟩
      obtain ⟨xp, xc⟩ := gm
      rw [hgm] at HCC HAF
      dsimp only at HCC HAF
      have gS2 : (s.toList != s.toList) = false := by simp
      have gS : (s.toList == s.toList) = true := by simp
      clear hA hT hP hsm hwf h8 hin h64 k3 k4 k5 k6 k7 hce hw9 hok HFO HST hxs hL0 hFS hFE hT9 htg hgm hn
      have HX9 := Lib.hid HX.out
      go_enter Tryd.func4, Tryd.ntmps4
      go_wp2_with fail
      refine HAL.out.mono ?_
      rintro e w1 ⟨rfl, hy1⟩
      clear hW2e d0 d1 l0 c0 c1 l1
      obtain ⟨d0, d1, l0, c0, c1, l1⟩ := HB.out _ hy1
      go_wp2_with fail
      refine (HMU.out _ (HX.out.trans hy1)).mono ?_
      rintro e w2 ⟨rfl, hy2⟩
      have hz2 := hy1.trans hy2
      obtain ⟨d0, d1, l0, c0, c1, l1⟩ := HB.out _ hz2
      go_wp2_with fail
      refine (HF1.out _ (HX.out.trans hz2)).mono ?_
      rintro e w3 ⟨rfl, hy3⟩
      have hz3 := hz2.trans hy3
      obtain ⟨d0, d1, l0, c0, c1, l1⟩ := HB.out _ hz3
      go_wp2_with fail
      refine (HS1.out _ (HX.out.trans hz3)).mono ?_
      rintro e w4 ⟨⟨rp, rc, rfl, hrp⟩, hy4⟩
      have hz4 := hz3.trans hy4
      have HRP := Lib.hid hrp
      clear hrp d0 d1 l0 c0 c1 l1
      go_wp2_with fail
      go_loopw [16] (fun i wr => ∃ k : Nat, k ≤ T.length ∧ i = .int .i64 k ∧ Ext w4 wr) (fun i _ => T.length - (intOf i).toNat)
      case atStart => exact ⟨0, Nat.zero_le _, rfl, Ext.refl _⟩
      case round =>
        obtain ⟨k, hk, rfl, hx⟩ := hrel
        by_cases hlt : k < T.length
        · obtain rfl : k = 0 := by omega
          cases T with
          | nil => exact absurd hlt (by simp)
          | cons t T2 =>
            have hT2 : T2 = [] := by
              rw [List.length_cons] at hstl
              exact List.eq_nil_of_length_eq_zero (by omega)
            subst hT2
            obtain ⟨b, rfl, hbl, hbc⟩ := HRP.out t rfl
            have qs := (hx.facts.1 _ _ hbl).trans hbc
            have ql := Nat.lt_of_lt_of_le hbl hx.le
            have HFW := Lib.hid (fun W (hW : Ext wr W) => HFI.out t rfl W (HX9.out.trans (hz4.trans (hx.trans hW))))
            obtain ⟨d0, d1, l0, c0, c1, l1⟩ := HB.out _ (hz4.trans hx)
            clear hbc
            go_wp2_with fail
            (refine wp_region_ext (by kernel_rfl) (by kernel_rfl) ?_; intro ι hι g hg; have q_d0 := hg.cell d0; have q_d1 := hg.cell d1; have q_c0 := hg.cell c0; have q_c1 := hg.cell c1; have q_qs := hg.cell qs; clear d0 d1 c0 c1 qs; (repeat (go_big_quiet_step ((go_at_call 15; exact hg.call (HFW.out _ (hg.ext _)))))); refine wpQuiet_nil ?_; rintro w5 ⟨i2, rfl⟩; have hq5 := hg.ext i2; generalize g i2 = w5 at hq5 ⊢; clear q_d0 q_d1 q_c0 q_c1 q_qs i2 hg g hι ι)
            go_wp2_with fail
            exact ⟨⟨1, by simp, rfl, hx.trans hq5⟩, by simp [intOf]⟩
        · have hxz := hz4.trans hx
          go_wp2_with fail
          go_loopw [19, 20, 21] (fun now sh i w6 => ∃ (k : Nat) (c : List Int) (q : Bool), k ≤ xs.length ∧ i = .int .i64 k ∧ now = .string (runesBytes c) ∧ sh = .bool q ∧ Hid (shpTo xs k = q) ∧ Ext W2 w6 ∧ Hid (ChainI A v xs L0 k c)) (fun _ _ i _ => xs.length - (intOf i).toNat)
          case atStart => exact ⟨0, L0, false, Nat.zero_le _, rfl, by rw [HW9.out], rfl, Lib.hid rfl, hxz, HC0⟩
          case round =>
            clear hxz hx hk hlt
            obtain ⟨k, c, q, hk, rfl, rfl, rfl, HQ, hx, HC⟩ := hrel
            have hc256 := HC.out.2.1
            have hwx := HX9.out.trans hx
            obtain ⟨d0, d1, l0, c0, c1, l1⟩ := HB.out _ hx
            obtain ⟨b, off, e0, hbw, k0, k1⟩ := HCC.out _ hwx
            subst e0
            by_cases hlt : k < xs.length
            · obtain ⟨b2, off2, e2, hbw2, a0, a1, a2, a3⟩ := (HAF.out _ hwx).cells hlt
              have HPK := Lib.hid (HPT.out k hlt c hc256)
              have HGK := Lib.hid (HGO.out k hlt c HC.out)
              have HNK := Lib.hid (HNO.out k hlt c HC.out)
              have HLK := Lib.hid (HLO.out k c HC.out)
              have HLN := Lib.hid (HLG.out c HC.out.1 hc256)
              have HQS := Lib.hid (show shpTo xs (k + 1) = (q || decide ((ax xs k).kind = 5)) by rw [shpTo, HQ.out])
              obtain ⟨x, hx9⟩ : ∃ x, ax xs k = x := ⟨_, rfl⟩
              rw [hx9] at a0 a1 a2 a3 HPK HGK HNK HLK HQS
              clear hx9
              subst e2
              obtain ⟨V, hV⟩ : ∃ V, putS A v (runesBytes c) x = V := ⟨_, rfl⟩
              obtain ⟨E, hE⟩ : ∃ E, putE A v (runesBytes c) x = E := ⟨_, rfl⟩
              obtain ⟨NC, hNC⟩ : ∃ NC, putC A v x c = NC := ⟨_, rfl⟩
              obtain ⟨CB, hCB⟩ : ∃ CB, runesBytes c = CB := ⟨_, rfl⟩
              obtain ⟨N, hN⟩ : ∃ N, c.length = N := ⟨_, rfl⟩
              rw [hV, hE, hCB] at HPK
              rw [hCB, hN] at HLN
              rw [hCB] at HGK HNK HLK
              rw [hCB] at hV hE
              rw [hE, hV, hNC, hN] at HGK
              rw [hE, hNC, hN] at HNK
              rw [hE, hN] at HLK
              rw [hN] at hc256
              rw [hCB]
              have hx3 : Ext wr (wr.alloc (.cells #[.int .u8 (x.kind : Int), .string x.form, .string x.other, .int .i64 x.pos] 36)) := (Ext.refl _).alloc _
              have HXB := Lib.hid (fun W (hW : Ext (wr.alloc (.cells #[.int .u8 (x.kind : Int), .string x.form, .string x.other, .int .i64 x.pos] 36)) W) => (⟨hW.cell0 0, hW.cell0 1, hW.cell0 2, hW.cell0 3, hW.lt0⟩ : W.cell? ⟨wr.heap.size, 0, none⟩ = some (.int .u8 (x.kind : Int)) ∧ W.cell? ⟨wr.heap.size, 1, none⟩ = some (.string x.form) ∧ W.cell? ⟨wr.heap.size, 2, none⟩ = some (.string x.other) ∧ W.cell? ⟨wr.heap.size, 3, none⟩ = some (.int .i64 x.pos) ∧ wr.heap.size < W.heap.size))
              clear hV hE hNC hCB hN
              cases q
              · by_cases h5 : x.kind = 5
                · have g5 : ((x.kind : Int) == 5) = true := by rw [beq_iff_eq]; omega
                  have HQN := Lib.hid (show shpTo xs (k + 1) = true by rw [HQS.out, decide_eq_true h5]; rfl)
                  clear h5
                  by_cases h64 : N ≤ 64
                  · by_cases hp : NC.2 = 0
                    · obtain ⟨p1, p2, p3⟩ := HGK.out h64 hp
                      have HP3 := Lib.hid p3
                      have HP2 := Lib.hid p2
                      subst p1
                      clear p2 p3 hp
                      go_wp2_with fail
                      refine (HPK.out _ (hwx.trans hx3)).mono ?_
                      rintro e w5 ⟨rfl, hy5⟩
                      have hz5 := (hx.trans hx3).trans hy5
                      go_wp2_with fail
                      exact ⟨⟨k + 1, NC.1, true, by omega, by go_num, by rw [HP2.out], rfl, HQN, hz5, HP3⟩, by simp [intOf]; omega⟩
                    · obtain ⟨p1, p2⟩ := HNK.out h64 hp
                      have gE : (E != 0) = true := by rw [bne_iff_ne]; exact p1
                      have gF : (FE != 0) = true := by rw [bne_iff_ne]; exact p2
                      clear hp p1 p2
                      go_wp2_with fail
                      refine (HPK.out _ (hwx.trans hx3)).mono ?_
                      rintro e w5 ⟨rfl, hy5⟩
                      have hz5 := (hx.trans hx3).trans hy5
                      go_wp2_with fail
                      go_ret
                      exact ⟨rfl, HX9.out.trans hz5⟩
                  · have gE : (E != 0) = true := by rw [bne_iff_ne]; exact HLK.out h64
                    by_cases hF : FE = 0
                    · subst hF
                      have gN : decide (64 < (N : Int)) = true := decide_eq_true (by omega)
                      go_wp2_with fail
                      refine (HPK.out _ (hwx.trans hx3)).mono ?_
                      rintro e w5 ⟨rfl, hy5⟩
                      have hz5 := (hx.trans hx3).trans hy5
                      go_wp2_with fail
                      refine (HLN.out _).mono ?_
                      rintro e w6 ⟨rfl, hy6⟩
                      go_wp2_with fail
                      go_ret
                      exact ⟨rfl, HX9.out.trans (hz5.trans hy6)⟩
                    · have gF : (FE != 0) = true := by rw [bne_iff_ne]; exact hF
                      clear hF
                      go_wp2_with fail
                      refine (HPK.out _ (hwx.trans hx3)).mono ?_
                      rintro e w5 ⟨rfl, hy5⟩
                      have hz5 := (hx.trans hx3).trans hy5
                      go_wp2_with fail
                      go_ret
                      exact ⟨rfl, HX9.out.trans hz5⟩
                · have g5 : ((x.kind : Int) == 5) = false := by rw [beq_eq_false_iff_ne]; omega
                  have HQN := Lib.hid (show shpTo xs (k + 1) = false by rw [HQS.out, decide_eq_false h5]; rfl)
                  clear h5
                  by_cases h64 : N ≤ 64
                  · by_cases hp : NC.2 = 0
                    · obtain ⟨p1, p2, p3⟩ := HGK.out h64 hp
                      have HP3 := Lib.hid p3
                      have HP2 := Lib.hid p2
                      subst p1
                      clear p2 p3 hp
                      go_wp2_with fail
                      refine (HPK.out _ (hwx.trans hx3)).mono ?_
                      rintro e w5 ⟨rfl, hy5⟩
                      have hz5 := (hx.trans hx3).trans hy5
                      go_wp2_with fail
                      exact ⟨⟨k + 1, NC.1, false, by omega, by go_num, by rw [HP2.out], rfl, HQN, hz5, HP3⟩, by simp [intOf]; omega⟩
                    · obtain ⟨p1, p2⟩ := HNK.out h64 hp
                      have gE : (E != 0) = true := by rw [bne_iff_ne]; exact p1
                      have gF : (FE != 0) = true := by rw [bne_iff_ne]; exact p2
                      clear hp p1 p2
                      go_wp2_with fail
                      refine (HPK.out _ (hwx.trans hx3)).mono ?_
                      rintro e w5 ⟨rfl, hy5⟩
                      have hz5 := (hx.trans hx3).trans hy5
                      go_wp2_with fail
                      go_ret
                      exact ⟨rfl, HX9.out.trans hz5⟩
                  · have gE : (E != 0) = true := by rw [bne_iff_ne]; exact HLK.out h64
                    by_cases hF : FE = 0
                    · subst hF
                      have gN : decide (64 < (N : Int)) = true := decide_eq_true (by omega)
                      go_wp2_with fail
                      refine (HPK.out _ (hwx.trans hx3)).mono ?_
                      rintro e w5 ⟨rfl, hy5⟩
                      have hz5 := (hx.trans hx3).trans hy5
                      go_wp2_with fail
                      refine (HLN.out _).mono ?_
                      rintro e w6 ⟨rfl, hy6⟩
                      go_wp2_with fail
                      go_ret
                      exact ⟨rfl, HX9.out.trans (hz5.trans hy6)⟩
                    · have gF : (FE != 0) = true := by rw [bne_iff_ne]; exact hF
                      clear hF
                      go_wp2_with fail
                      refine (HPK.out _ (hwx.trans hx3)).mono ?_
                      rintro e w5 ⟨rfl, hy5⟩
                      have hz5 := (hx.trans hx3).trans hy5
                      go_wp2_with fail
                      go_ret
                      exact ⟨rfl, HX9.out.trans hz5⟩
              · have HQN := Lib.hid (show shpTo xs (k + 1) = true by rw [HQS.out]; rfl)
                by_cases h64 : N ≤ 64
                · by_cases hp : NC.2 = 0
                  · obtain ⟨p1, p2, p3⟩ := HGK.out h64 hp
                    have HP3 := Lib.hid p3
                    have HP2 := Lib.hid p2
                    subst p1
                    clear p2 p3 hp
                    go_wp2_with fail
                    refine (HPK.out _ (hwx.trans hx3)).mono ?_
                    rintro e w5 ⟨rfl, hy5⟩
                    have hz5 := (hx.trans hx3).trans hy5
                    go_wp2_with fail
                    exact ⟨⟨k + 1, NC.1, true, by omega, by go_num, by rw [HP2.out], rfl, HQN, hz5, HP3⟩, by simp [intOf]; omega⟩
                  · obtain ⟨p1, p2⟩ := HNK.out h64 hp
                    have gE : (E != 0) = true := by rw [bne_iff_ne]; exact p1
                    have gF : (FE != 0) = true := by rw [bne_iff_ne]; exact p2
                    clear hp p1 p2
                    go_wp2_with fail
                    refine (HPK.out _ (hwx.trans hx3)).mono ?_
                    rintro e w5 ⟨rfl, hy5⟩
                    have hz5 := (hx.trans hx3).trans hy5
                    go_wp2_with fail
                    go_ret
                    exact ⟨rfl, HX9.out.trans hz5⟩
                · have gE : (E != 0) = true := by rw [bne_iff_ne]; exact HLK.out h64
                  by_cases hF : FE = 0
                  · subst hF
                    have gN : decide (64 < (N : Int)) = true := decide_eq_true (by omega)
                    go_wp2_with fail
                    refine (HPK.out _ (hwx.trans hx3)).mono ?_
                    rintro e w5 ⟨rfl, hy5⟩
                    have hz5 := (hx.trans hx3).trans hy5
                    go_wp2_with fail
                    refine (HLN.out _).mono ?_
                    rintro e w6 ⟨rfl, hy6⟩
                    go_wp2_with fail
                    go_ret
                    exact ⟨rfl, HX9.out.trans (hz5.trans hy6)⟩
                  · have gF : (FE != 0) = true := by rw [bne_iff_ne]; exact hF
                    clear hF
                    go_wp2_with fail
                    refine (HPK.out _ (hwx.trans hx3)).mono ?_
                    rintro e w5 ⟨rfl, hy5⟩
                    have hz5 := (hx.trans hx3).trans hy5
                    go_wp2_with fail
                    go_ret
                    exact ⟨rfl, HX9.out.trans hz5⟩
            · obtain rfl : k = xs.length := by omega
              obtain ⟨f1, f2, f3⟩ := HEN.out c HC.out
              subst f1 f2
              have HF3 := Lib.hid f3
              have HWK := Lib.hid (HWC.out c hc256)
              have HSK := Lib.hid (HSC.out c hc256)
              have HQ2 := Lib.hid HQ.out
              rw [HQ.out] at HF3
              clear f3 hlt
              obtain ⟨SE, hSE⟩ : ∃ SE, (spell A (runesBytes c)).2 = SE := ⟨_, rfl⟩
              obtain ⟨SS, hSS⟩ : ∃ SS, stemS A v P (m : Int) (runesBytes c) = SS := ⟨_, rfl⟩
              obtain ⟨CE, hCE⟩ : ∃ CE, cellE A v P (m : Int) (runesBytes c) = CE := ⟨_, rfl⟩
              rw [hSE] at HWK
              rw [hSS, hCE] at HSK
              rw [hSE, hSS, hCE] at HF3
              obtain ⟨CB, hCB⟩ : ∃ CB, runesBytes c = CB := ⟨_, rfl⟩
              rw [hCB] at HWK HSK
              rw [hCB]
              have gV2 : (CB.toList != CB.toList) = false := by simp
              clear hSE hSS hCE hCB
              cases q
              · by_cases hse : SE = 0
                · obtain ⟨f4, f5⟩ := HF3.out rfl hse
                  subst hse f5
                  go_wp2_with fail
                  refine (HWK.out _ (HX9.out.trans hx)).mono ?_
                  rintro e w7 ⟨rfl, hy7⟩
                  have hz7 := hx.trans hy7
                  obtain ⟨d0, d1, l0, c0, c1, l1⟩ := HB.out _ hz7
                  go_wp2_with fail
                  refine (HSK.out _ (HX9.out.trans hz7)).mono ?_
                  rintro e w8 ⟨hq8, hy8⟩
                  obtain ⟨qb, qc, rfl, ql, qs⟩ := opt_one f4 hq8
                  go_wp2_with fail
                  go_ret
                  exact ⟨rfl, HX9.out.trans (hz7.trans hy8)⟩
                · have gSE : (SE != 0) = true := by rw [bne_iff_ne]; exact hse
                  clear hse
                  go_wp2_with fail
                  refine (HWK.out _ (HX9.out.trans hx)).mono ?_
                  rintro e w7 ⟨rfl, hy7⟩
                  go_wp2_with fail
                  go_ret
                  exact ⟨rfl, HX9.out.trans (hx.trans hy7)⟩
              · go_wp2_with fail
                go_ret
                exact ⟨rfl, HX9.out.trans hx⟩
    · obtain ⟨n1, n2⟩ := stem_err9 hce
      have gE : (formE A v P n s != 0) = true := by rw [bne_iff_ne]; exact n2
      have gC : (cellE A v P n s != 0) = true := by rw [bne_iff_ne]; exact hce
      obtain ⟨FS, hFS⟩ : ∃ FS, formS A v P n s = FS := ⟨_, rfl⟩
      obtain ⟨FE, hFE⟩ : ∃ FE, formE A v P n s = FE := ⟨_, rfl⟩
      obtain ⟨CE, hCE⟩ : ∃ CE, cellE A v P n s = CE := ⟨_, rfl⟩
      rw [n1, hCE] at HS1
      rw [hFS, hFE] at HF1
      rw [hFE] at gE
      rw [hCE] at gC
      clear n1 n2 hce hFS hFE hCE HFO HST
      go_enter Tryd.func4, Tryd.ntmps4
      go_wp2_with fail
      refine HAL.out.mono ?_
      rintro e w1 ⟨rfl, hy1⟩
      clear hW2e d0 d1 l0 c0 c1 l1
      obtain ⟨d0, d1, l0, c0, c1, l1⟩ := HB.out _ hy1
      go_wp2_with fail
      refine (HMU.out _ (HX.out.trans hy1)).mono ?_
      rintro e w2 ⟨rfl, hy2⟩
      have hz2 := hy1.trans hy2
      obtain ⟨d0, d1, l0, c0, c1, l1⟩ := HB.out _ hz2
      go_wp2_with fail
      refine (HF1.out _ (HX.out.trans hz2)).mono ?_
      rintro e w3 ⟨rfl, hy3⟩
      have hz3 := hz2.trans hy3
      obtain ⟨d0, d1, l0, c0, c1, l1⟩ := HB.out _ hz3
      go_wp2_with fail
      refine (HS1.out _ (HX.out.trans hz3)).mono ?_
      rintro e w4 ⟨hq4, hy4⟩
      obtain ⟨qp, qc, rfl⟩ := opt_nil rfl hq4
      go_wp2_with fail
      go_ret
      exact ⟨rfl, HX.out.trans (hz3.trans hy4)⟩
end Go.Proofs.YtkmfhcjdaglikaaDoor
