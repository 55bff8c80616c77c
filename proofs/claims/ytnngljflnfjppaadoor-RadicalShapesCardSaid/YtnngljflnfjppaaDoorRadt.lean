/- Contract: cognateref13.All. -/
import Derived.Test.YtnngljflnfjppaaDoorRads
import Derived.Test.YtnngljflnfjppaaDoorHeld
namespace Go.Proofs.YtnngljflnfjppaaDoor
open Go.RowKit Go.Cg Go.Shelf Go.Maps

set_option maxRecDepth 100000 in
set_option maxHeartbeats 4000000 in
theorem All13_any (fp lp sp : Option Addr) (fc lc sc : Nat) (A : Alpha) (s : ByteArray) (L : List (ByteArray × ByteArray)) (hs : s.size ≤ 140737488351232) (w : World) (hA : AlphaAt w fp lp A) (hT : Tabs w) (hL : ShapesAt w sp L) :
    Calls Tryd.prog 25 #[.agg #[.slice fp A.feats.length fc, .slice lp A.lets.length lc], .string s, .slice sp L.length sc] w fun e w' => ∃ rp rc ip ic, e = .returned (.tuple #[.slice rp (allR A s L).length rc, .slice ip (allI A s L).length ic, .int .i64 (allE A s L)]) ∧ w'.ownsRow w.heap.size 9 1 (.slice rp (allR A s L).length rc) (allR A s L).length (textCells (allR A s L)) ∧ w'.ownsRow w.heap.size 3 1 (.slice ip (allI A s L).length ic) (allI A s L).length (intCells (allI A s L)) ∧ Ext w w' := by
  have hx3 : Ext w (w.alloc (.cells #[.slice fp A.feats.length fc, .slice lp A.lets.length lc] 26)) := (Ext.refl _).alloc _
  obtain ⟨iS, hiS, hzS0, hzS1, hzS2⟩ := info_parts infoSt
  obtain ⟨i0, hi, hz0, hz1, hz2⟩ := info_parts infoI
  have hcon := Letters_any fp lp fc lc A s hs _ (hA.mono hx3) (hT.ext hx3)
  have hck := fun i (hi : i < L.length) W hW => Form13_any fp lp fc lc A (sName L i) (sForm L i) (hL.small i hi).1 (hL.small i hi).2 W (hA.mono hW)
  have h64 := spell_len A s
  have hLb := hL.big
  have hO := fun (h : (spell A s).2 = 0) => (spell_ok h).1
  have hfe := allE_eq A s L
  have hfr := allR_eq A s L
  have hfi := allI_eq A s L
  obtain ⟨F, hF⟩ : ∃ F, allE A s L = F := ⟨_, rfl⟩
  obtain ⟨R, hR⟩ : ∃ R, allR A s L = R := ⟨_, rfl⟩
  obtain ⟨I, hI⟩ : ∃ I, allI A s L = I := ⟨_, rfl⟩
  rw [hF] at hfe hfr hfi
  rw [hR] at hfr
  rw [hI] at hfi
  rw [hF, hR, hI]
  clear hF hR hI
  obtain ⟨x, hl⟩ : ∃ x, (spell A s).1 = x := ⟨_, rfl⟩
  obtain ⟨er, her⟩ : ∃ er, (spell A s).2 = er := ⟨_, rfl⟩
  rw [hl, her] at hcon
  rw [her] at hfe hO
  rw [hl] at hfr hfi h64
  clear hl her
  have HCK := Lib.hid hck
  clear hck
  by_cases h0 : er = 0
  · subst h0
    rw [if_neg (by decide : ¬ ((0 : Int) ≠ 0))] at hfe
    have hok := hO rfl
    clear hO
    by_cases hm : 4096 < L.length
    · rw [if_pos hm] at hfe
      subst hfe
      rw [if_neg (by decide)] at hfr hfi
      subst hfr
      subst hfi
      go_enter Tryd.func25, Tryd.ntmps25
      go_wp2_with (go_at_call 49; refine hcon.mono ?_; rintro e w1 ⟨lrp, lrc, rfl, ho, hx1⟩)
      go_ret3
      exact ⟨none, 0, none, 0, rfl, World.ownsRow_nil _ _ _ _, World.ownsRow_nil _ _ _ _, hx3.trans hx1⟩
    · rw [if_neg hm] at hfe
      have HFE := Lib.hid hfe
      have HFR := Lib.hid hfr
      have HFI := Lib.hid hfi
      clear hfe hfr hfi
      go_enter Tryd.func25, Tryd.ntmps25
      go_wp2_with (go_at_call 49; refine hcon.mono ?_; rintro e w1 ⟨lrp, lrc, rfl, ho, hx1⟩)
      have hxw := hx3.trans hx1
      clear hcon
      go_loopw [11, 12, 13] (fun rv iv i wr => ∃ k : Nat, k ≤ L.length ∧ i = .int .i64 k ∧ Ext w1 wr ∧ wr.ownsRow w1.heap.size 9 1 rv (rootsTo A x L k).length (textCells (rootsTo A x L k)) ∧ wr.ownsRow w1.heap.size 3 1 iv (idxTo A x L k).length (intCells (idxTo A x L k)) ∧ Hid (∀ j, j < k → nmB (sName L j) = true ∧ formB A (sForm L j) = true)) (fun _ _ i _ => L.length - (intOf i).toNat)
      case atStart => exact ⟨0, Nat.zero_le _, rfl, Ext.refl _, World.ownsRow_nil _ _ _ _, World.ownsRow_nil _ _ _ _, fun j hj => by omega⟩
      case round =>
        obtain ⟨k, hk, rfl, hx, hrow, hidx, HN⟩ := hrel
        obtain ⟨rp, rc, rfl⟩ := ownsRow_slice hrow
        obtain ⟨ip, ic, rfl⟩ := ownsRow_slice hidx
        have hl1 := (rootsTo_len A x L k).1
        have hl2 : (idxTo A x L k).length ≤ k := by have := rootsTo_len A x L k; omega
        by_cases hlt : k < L.length
        · obtain ⟨b, off, e0, hbw, c0, c1⟩ := (hL.mono (hxw.trans hx)).cells hlt
          subst e0
          have d0 := (hx1.trans hx).cell0 0
          have d1 := (hx1.trans hx).cell0 1
          have l0 := (hx1.trans hx).lt0
          simp at d0 d1
          have hsm := hL.small k hlt
          have hxk := hxw.trans hx
          have hck := fun W hW => HCK.out k hlt W hW
          have hfB : formFB A (sName L k) (sForm L k) = (nmB (sName L k) && formB A (sForm L k)) := rfl
          have hS4 := fun (W : World) (hW : Ext wr W) => (⟨hW, ((hx1.trans hx).trans hW).cell0 0, ((hx1.trans hx).trans hW).cell0 1, (hW.facts.1 b (off + k * 2) hbw).trans c0, (hW.facts.1 b (off + k * 2 + 1) hbw).trans c1⟩ : Ext wr W ∧ W.cell? ⟨w.heap.size, 0, none⟩ = some (.slice fp A.feats.length fc) ∧ W.cell? ⟨w.heap.size, 1, none⟩ = some (.slice lp A.lets.length lc) ∧ W.cell? ⟨b, off + k * 2, none⟩ = some (.string (sName L k)) ∧ W.cell? ⟨b, off + k * 2 + 1, none⟩ = some (.string (sForm L k)))
          have HS4 := Lib.hid hS4
          clear hS4
          by_cases hsh : nmB (sName L k) = true ∧ formB A (sForm L k) = true
          · rw [hfB, hsh.1, hsh.2, formFL_yes hsh.1] at hck
            have hfl := formL_len A (sForm L k)
            have hyes := fun h => rootsTo_yes (A := A) (x := x) (L := L) (k := k) h
            have hnot := fun h => rootsTo_no (A := A) (x := x) (L := L) (k := k) h
            obtain ⟨f, hff⟩ : ∃ f, formL A (sForm L k) = f := ⟨_, rfl⟩
            rw [hff] at hck hfl hyes hnot
            have HCK2 := Lib.hid hck
            have hsp := fun lp lc fp fc W hL hF => split13_any lp fp lc fc x f h64 hfl W hL hF
            have HSH := Lib.hid hsh
            clear hck hff hsh hfB
            have hale := atHoles_le x f f.length
            have hasz := runesBytes_size_le (atHoles x f f.length)
            go_wp2_with fail
            go_region_held3 (fun W => Ext wr W ∧ W.cell? ⟨w.heap.size, 0, none⟩ = some (.slice fp A.feats.length fc) ∧ W.cell? ⟨w.heap.size, 1, none⟩ = some (.slice lp A.lets.length lc) ∧ W.cell? ⟨b, off + k * 2, none⟩ = some (.string (sName L k)) ∧ W.cell? ⟨b, off + k * 2 + 1, none⟩ = some (.string (sForm L k))) (exact HS4.out _ (by first | assumption | exact Ext.refl _ | exact (Ext.refl _).drew))
              (first
                | (go_at_call 50; refine (HCK2.out _ (hxk.drew)).mono ?_; rintro e w3 ⟨frp, frc, rfl, hof, hx4⟩; have hE3 : Ext wr w3 := ((Ext.refl wr).drew).trans hx4))
            have hx8 := hx.trans hE3
            cases hfit : fitsB x f
            · have HNO := Lib.hid (hnot hfit)
              rw [hfit] at hsp
              have HSP := Lib.hid hsp
              clear hyes hnot hsp hfit
              go_wp2_with (go_at_call 52; refine (HSP.out _ _ _ _ _ (ho.at_.mono hx8) hof.at_).mono ?_; rintro e w5 ⟨srp, src, rfl, hos, hx6⟩)
              have hxz : Ext wr w5 := hE3.trans hx6
              refine ⟨⟨k + 1, by omega, by go_num, hx.trans hxz, ?_, ?_, upto_succ HN.out HSH.out⟩, by simp [intOf]; omega⟩
              · rw [HNO.out.1]; exact ownsRow_ext hrow hxz
              · rw [HNO.out.2]; exact ownsRow_ext hidx hxz
            · have HYES := Lib.hid (hyes hfit)
              have hsl : splitL x f = atHoles x f f.length := by unfold splitL; rw [hfit, if_pos rfl]
              rw [hfit, hsl] at hsp
              have HSP := Lib.hid hsp
              clear hyes hnot hsp hfit hsl
              obtain ⟨ro, hro⟩ : ∃ ro, runesBytes (atHoles x f f.length) = ro := ⟨_, rfl⟩
              rw [hro] at HYES
              have HRO := Lib.hid hro
              clear hro hasz
              go_wp2_with (first | (go_at_call 52; refine (HSP.out _ _ _ _ _ (ho.at_.mono hx8) hof.at_).mono ?_; rintro e w4 ⟨srp, src, rfl, hos, hx6⟩) | (go_at_call 48; refine (Text_any srp src _ (by omega) _ hos.at_).mono ?_; rintro e w5 ⟨rfl, hx9⟩; rw [HRO.out]; have hxz : Ext wr w5 := (hE3.trans hx6).trans hx9) | (at_builtin; refine wpList_append_own _ rfl _ _ 23 rfl w1.heap.size 9 iS (.string ⟨#[]⟩) 1 16 Tryd.underlying23 hiS hzS0 hzS1 hzS2 rfl (by decide) _ _ _ rfl ((ownsRow_ext hrow hxz).alloc _) ⟨w5.heap.size, 0, none⟩ 1 1 [.string ro] rfl rfl (one_cell _ _ _) (by simp [Value.oneCell']) (by unfold maxLen; omega) (by omega) (by simp; have := hx.le; have := hxz.le; omega) ?_; intro v6 w6 hown6 hgrow6 _; have hidx6 := (((ownsRow_ext hidx hxz).alloc (.cells #[.string ro] 9)).kept hgrow6 (rows_apart ((ownsRow_ext hidx hxz).alloc (.cells #[.string ro] 9)) ((ownsRow_ext hrow hxz).alloc (.cells #[.string ro] 9)) str_int.symm)); have hx7 : Ext w1 w6 := Ext.append ((hx.trans hxz).alloc _) ((ownsRow_ext hrow hxz).alloc _) hgrow6 (Nat.le_refl _); obtain ⟨rp6, rc6, rfl⟩ := ownsRow_slice hown6) | (at_builtin; refine wpList_append_own _ rfl _ _ 44 rfl w1.heap.size 3 i0 (.int .i64 0) 1 8 Tryd.underlying44 hi hz0 hz1 hz2 rfl (by decide) _ _ _ rfl (hidx6.alloc _) ⟨w6.heap.size, 0, none⟩ 1 1 [.int .i64 k] rfl rfl (one_cell _ _ _) (by simp [Value.oneCell']) (by unfold maxLen; omega) (by omega) (by simp; have := hx7.le; omega) ?_; intro v7 w7 hown7 hgrow7 _))
              refine ⟨⟨k + 1, by omega, by go_num, Ext.append (hx7.alloc _) (hidx6.alloc _) hgrow7 (Nat.le_refl _), ?_, ?_, upto_succ HN.out HSH.out⟩, by simp [intOf]; omega⟩
              · rw [HYES.out.1, List.length_append, textCells_append]
                exact (hown6.alloc (.cells #[.int .i64 k] 3)).kept hgrow7 (rows_apart (hown6.alloc (.cells #[.int .i64 k] 3)) (hidx6.alloc (.cells #[.int .i64 k] 3)) str_int)
              · rw [HYES.out.2, List.length_append, intCells_append]; exact hown7
          · have hno : formFB A (sName L k) (sForm L k) = false := by
              rw [hfB]
              cases h1 : nmB (sName L k)
              · rfl
              · cases h2 : formB A (sForm L k)
                · rfl
                · exact absurd ⟨h1, h2⟩ hsh
            rw [hno] at hck
            have HCK2 := Lib.hid hck
            have hfe := HFE.out
            have hfr := HFR.out
            have hfi := HFI.out
            rw [if_neg (by rw [shapesB_no hlt hsh]; decide)] at hfe
            subst hfe
            rw [if_neg (by decide)] at hfr hfi
            subst hfr
            subst hfi
            clear hck hsh hno hfB
            go_wp2_with fail
            go_region_held3 (fun W => Ext wr W ∧ W.cell? ⟨w.heap.size, 0, none⟩ = some (.slice fp A.feats.length fc) ∧ W.cell? ⟨w.heap.size, 1, none⟩ = some (.slice lp A.lets.length lc) ∧ W.cell? ⟨b, off + k * 2, none⟩ = some (.string (sName L k)) ∧ W.cell? ⟨b, off + k * 2 + 1, none⟩ = some (.string (sForm L k))) (exact HS4.out _ (by first | assumption | exact Ext.refl _ | exact (Ext.refl _).drew))
              (first
                | (go_at_call 50; refine (HCK2.out _ (hxk.drew)).mono ?_; rintro e w3 ⟨frp, frc, rfl, hof, hx4⟩; have hE3 : Ext wr w3 := ((Ext.refl wr).drew).trans hx4))
            go_wp2_with fail
            go_ret3
            exact ⟨none, 0, none, 0, rfl, World.ownsRow_nil _ _ _ _, World.ownsRow_nil _ _ _ _, hxk.trans hE3⟩
        · have e : k = L.length := by omega
          subst e
          have hfe := HFE.out
          have hfr := HFR.out
          have hfi := HFI.out
          rw [if_pos (shapesB_yes fun i hi => HN.out i hi)] at hfe
          subst hfe
          rw [if_pos rfl] at hfr hfi
          subst hfr
          subst hfi
          go_wp2_with fail
          go_ret3
          exact ⟨rp, rc, ip, ic, rfl, ownsRow_base hrow hxw.le, ownsRow_base hidx hxw.le, hxw.trans hx⟩
  · have hn0 : (er != 0) = true := by rw [bne_iff_ne]; exact h0
    rw [if_pos h0] at hfe
    subst hfe
    rw [if_neg h0] at hfr hfi
    subst hfr
    subst hfi
    clear hO
    go_enter Tryd.func25, Tryd.ntmps25
    go_wp2_with (go_at_call 49; refine hcon.mono ?_; rintro e w1 ⟨lrp, lrc, rfl, ho, hx1⟩)
    go_ret3
    exact ⟨none, 0, none, 0, rfl, World.ownsRow_nil _ _ _ _, World.ownsRow_nil _ _ _ _, hx3.trans hx1⟩

end Go.Proofs.YtnngljflnfjppaaDoor
