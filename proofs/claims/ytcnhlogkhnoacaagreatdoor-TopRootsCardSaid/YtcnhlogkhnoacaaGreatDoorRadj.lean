/- Contract: radical.Merge. -/
import Derived.Test.YtcnhlogkhnoacaaGreatDoorRadi
namespace Go.Proofs.YtcnhlogkhnoacaaGreatDoor
open Go.RowKit Go.Cg Go.Shelf Go.Maps

def mergeE (A : Alpha) (r nm fm : ByteArray) : Int := if (spell A r).2 ≠ 0 then (spell A r).2 else if (nmB nm = true ∧ formB A fm = true) ∧ txtHoles fm = (spell A r).1.length then 0 else 130
def mergeS (A : Alpha) (r nm fm : ByteArray) : ByteArray := if mergeE A r nm fm = 0 then runesBytes (fillTo (spell A r).1 (formL A fm) (formL A fm).length) else ⟨#[]⟩
theorem mergeE_eq (A : Alpha) (r nm fm : ByteArray) : mergeE A r nm fm = if (spell A r).2 ≠ 0 then (spell A r).2 else if (nmB nm = true ∧ formB A fm = true) ∧ txtHoles fm = (spell A r).1.length then 0 else 130 := rfl
theorem mergeS_eq (A : Alpha) (r nm fm : ByteArray) : mergeS A r nm fm = if mergeE A r nm fm = 0 then runesBytes (fillTo (spell A r).1 (formL A fm) (formL A fm).length) else ⟨#[]⟩ := rfl

set_option maxRecDepth 100000 in
set_option maxHeartbeats 2000000 in
theorem merge_any (fp lp : Option Addr) (fc lc : Nat) (A : Alpha) (s nm fm : ByteArray) (hs : s.size ≤ 140737488351232) (hn : nm.size ≤ 140737488351232) (hf : fm.size ≤ 140737488351232) (w : World) (hA : AlphaAt w fp lp A) (hT : Tabs w) :
    Calls Tryz.prog 13 #[.agg #[.slice fp A.feats.length fc, .slice lp A.lets.length lc], .string s, .agg #[.string nm, .string fm]] w fun e w' => e = .returned (.tuple #[.string (mergeS A s nm fm), .int .i64 (mergeE A s nm fm)]) ∧ Ext w w' := by
  have hx4 : Ext w ((w.alloc (.cells #[.slice fp A.feats.length fc, .slice lp A.lets.length lc] 25)).alloc (.cells #[.string nm, .string fm] 41)) := ((Ext.refl _).alloc _).alloc _
  have hxb : Ext (w.alloc (.cells #[.slice fp A.feats.length fc, .slice lp A.lets.length lc] 25)) ((w.alloc (.cells #[.slice fp A.feats.length fc, .slice lp A.lets.length lc] 25)).alloc (.cells #[.string nm, .string fm] 41)) := (Ext.refl _).alloc _
  have hbx : ∀ W, Ext ((w.alloc (.cells #[.slice fp A.feats.length fc, .slice lp A.lets.length lc] 25)).alloc (.cells #[.string nm, .string fm] 41)) W → W.cell? ⟨w.heap.size + 1, 0, none⟩ = some (.string nm) ∧ W.cell? ⟨w.heap.size + 1, 1, none⟩ = some (.string fm) ∧ W.cell? ⟨w.heap.size, 0, none⟩ = some (.slice fp A.feats.length fc) ∧ W.cell? ⟨w.heap.size, 1, none⟩ = some (.slice lp A.lets.length lc) ∧ w.heap.size + 1 < W.heap.size := fun W hW => by
    have e0 := hW.cell0 0
    have e1 := hW.cell0 1
    have b0 := (hxb.trans hW).cell0 0
    have b1 := (hxb.trans hW).cell0 1
    have l0 := hW.lt0
    rw [size_alloc] at e0 e1 l0
    exact ⟨e0, e1, b0, b1, l0⟩
  have HBX := Lib.hid hbx
  clear hbx
  have hcon := letters_any fp lp fc lc A s hs _ (hA.mono hx4) (hT.ext hx4)
  have hck := fun W hW => shapeCheck_any fp lp fc lc A nm fm hn hf W (hA.mono hW) (hT.ext hW)
  have hho := fun W => holes_any nm fm W
  have h64 := spell_len A s
  have hO := fun (h : (spell A s).2 = 0) => (spell_ok h).1
  have hfe := mergeE_eq A s nm fm
  have hfs := mergeS_eq A s nm fm
  have hcle : txtHoles fm ≤ fm.size := txtHoles_le fm
  have hho2 := fun h1 h2 => form_holes (A := A) (s := fm) h1 h2
  obtain ⟨H, hH⟩ : ∃ H, txtHoles fm = H := ⟨_, rfl⟩
  obtain ⟨F, hF⟩ : ∃ F, mergeE A s nm fm = F := ⟨_, rfl⟩
  obtain ⟨S, hS⟩ : ∃ S, mergeS A s nm fm = S := ⟨_, rfl⟩
  rw [hH] at hfe hho hcle hho2
  rw [hF] at hfe hfs
  rw [hS] at hfs
  rw [hF, hS]
  clear hF hS hH
  obtain ⟨l, hl⟩ : ∃ l, (spell A s).1 = l := ⟨_, rfl⟩
  obtain ⟨er, her⟩ : ∃ er, (spell A s).2 = er := ⟨_, rfl⟩
  rw [hl, her] at hcon
  rw [her] at hO
  rw [hl] at hfs h64
  rw [hl, her] at hfe
  clear hl her
  have HHO := Lib.hid hho
  clear hho
  by_cases h0 : er = 0
  · subst h0
    rw [if_neg (by decide : ¬ ((0 : Int) ≠ 0))] at hfe
    have hok := hO rfl
    clear hO
    by_cases hsh : nmB nm = true ∧ formB A fm = true
    · rw [shapeE_ok hok hsh] at hck
      have HCK := Lib.hid hck
      clear hck
      by_cases hcnt : H = l.length
      · rw [if_pos ⟨hsh, hcnt⟩] at hfe
        subst hfe
        rw [if_pos rfl] at hfs
        have hfr := fun W => form_row hsh.2 W
        have hfl := formL_len A fm
        have hh := hho2 hok hsh.2
        obtain ⟨f, hff⟩ : ∃ f, formL A fm = f := ⟨_, rfl⟩
        rw [hff] at hfr hfl hfs hh
        rw [← fillMix_all] at hfs
        subst hfs
        have HFR := Lib.hid hfr
        have g1 : ((H : Int) != l.length) = false := by rw [hcnt]; simp
        have HHH := Lib.hid (show holeN f = l.length by omega)
        clear hfr hff hsh hok hho2 hh
        subst hcnt
        go_enter Tryz.func13, Tryz.ntmps13
        go_wp2_with (first | (go_at_call 36; refine hcon.mono ?_; rintro e w1 ⟨lrp, lrc, rfl, ho, hx1⟩; obtain ⟨e0, e1, b0, b1, l0⟩ := HBX.out _ hx1) | (go_at_call 37; refine (HCK.out _ (hx4.trans hx1)).mono ?_; rintro e w2 ⟨rfl, hx2⟩; obtain ⟨e0, e1, b0, b1, l0⟩ := HBX.out _ (hx1.trans hx2)) | (go_at_call 14; refine (HHO.out _).mono ?_; rintro e w3 ⟨rfl, hx3⟩; obtain ⟨e0, e1, b0, b1, l0⟩ := HBX.out _ ((hx1.trans hx2).trans hx3); obtain ⟨cc, w5, hcv, hof, hx5⟩ := HFR.out w3))
        clear hcv e0 e1 b0 b1 l0 hcon
        have hoL := ((ho.at_.mono hx2).mono hx3)
        have hwfL := ho.2.2
        have hwfF := hof.2.2
        have hxw := ((hx4.trans hx1).trans hx2).trans hx3
        have HOF := Lib.hid hof
        go_loopw [11, 39] (fun kv i wr => ∃ j : Nat, j ≤ f.length ∧ i = .int .i64 j ∧ kv = .int .i64 (holeN (f.take j) : Nat) ∧ Ext w3 wr ∧ wr.ownsRow w3.heap.size 21 1 (.slice (some ⟨w3.heap.size, 0, none⟩) f.length cc) f.length ((fillMix l f j).map (Value.int .i32))) (fun _ i _ => f.length - (intOf i).toNat)
        case atStart => exact ⟨0, Nat.zero_le _, rfl, rfl, hx5, hof.1⟩
        case round =>
          clear hof
          obtain ⟨j, hj, rfl, rfl, hx, hown⟩ := hrel
          have hkle := holeN_take_le f j
          rw [HHH.out] at hkle
          by_cases hlt : j < f.length
          · have c0 := hown.cellAt j (by omega)
            have f0 := hown.frozenAt j
            have hlw := (hown.lt w3.heap.size rfl).2
            rw [List.getElem?_map, List.getElem?_eq_getElem (by rw [fillMix_len hj]; exact hlt)] at c0
            have c0' : wr.cell? ⟨w3.heap.size, j, none⟩ = some (.int .i32 (rn f j)) := by
              rw [c0, ← rn_eq (by rw [fillMix_len hj]; exact hlt), fillMix_at hlt]; rfl
            clear c0
            have htk := holeN_take hlt
            cases he : (rn f j == 95)
            · rw [if_neg (by simpa using he)] at htk
              have HS := Lib.hid (fillMix_same (l := l) hlt (by simpa using he))
              have HTK := Lib.hid htk
              clear htk
              go_wp2_with fail
              refine ⟨⟨j + 1, by omega, by go_num, by rw [HTK.out]; rfl, hx, ?_⟩, by simp [intOf]; omega⟩
              rw [HS.out]; exact hown
            · have he' : rn f j = 95 := by simpa using he
              rw [if_pos he'] at htk
              have hkl := holeN_lt hlt he'
              rw [HHH.out] at hkl
              obtain ⟨b, off, e0, hbw, c2⟩ := (hoL.mono hx).cells hkl
              subst e0
              have hst : (fillMix l f (j + 1)).map (Value.int .i32) = ((fillMix l f j).map (Value.int .i32)).set j (.int .i32 (rn l (holeN (f.take j)))) := by rw [fillMix_hole hlt he', List.map_set]
              have HS := Lib.hid hst
              have HTK := Lib.hid htk
              clear hst htk
              obtain ⟨kk, hkk⟩ : ∃ kk, holeN (f.take j) = kk := ⟨_, rfl⟩
              have HKK := Lib.hid hkk
              rw [hkk] at hkl hkle c2 ⊢
              clear hkk
              go_wp2_with fail
              refine ⟨⟨j + 1, by omega, by go_num, by rw [HTK.out, HKK.out]; go_num, hx.setCell (Nat.le_refl _) _, ?_⟩, by simp [intOf]; omega⟩
              rw [HS.out, HKK.out]; exact (hown.stored j _).1
          · have e : j = f.length := by omega
            subst e
            have hlen : (fillMix l f f.length).length = f.length := fillMix_len (Nat.le_refl _)
            have hwf : ∀ r ∈ fillMix l f f.length, -2147483648 ≤ r ∧ r ≤ 2147483647 := fun r hr => by
              rw [fillMix_all] at hr
              rcases fillTo_mem f.length (Nat.le_refl _) (by rw [HHH.out]; exact Nat.le_refl _) hr with hm | hm
              · obtain ⟨i, hi, e⟩ := List.getElem_of_mem hm
                have := hwfL i hi
                rwa [rn_eq hi, e] at this
              · obtain ⟨i, hi, e⟩ := List.getElem_of_mem hm.1
                have := hwfF i hi
                rwa [rn_eq hi, e] at this
            have hor : OwnRunes 21 w3.heap.size wr (some ⟨w3.heap.size, 0, none⟩) cc (fillMix l f f.length) := ⟨by rw [hlen]; exact hown, by omega, mem_rn hwf⟩
            have hcv := hor.at_.text (P := Tryz.prog) (src := 36) (dst := 9) Tryz.underlying36 Tryz.underlying21 Tryz.underlying9 cc
            rw [hlen] at hcv
            go_wp2_with fail
            go_ret2
            exact ⟨rfl, hxw.trans hx⟩
      · rw [if_neg fun h => hcnt h.2] at hfe
        subst hfe
        rw [if_neg (by decide)] at hfs
        subst hfs
        have g1 : ((H : Int) != l.length) = true := by rw [bne_iff_ne]; omega
        clear hho2
        go_enter Tryz.func13, Tryz.ntmps13
        go_wp2_with (first | (go_at_call 36; refine hcon.mono ?_; rintro e w1 ⟨lrp, lrc, rfl, ho, hx1⟩; obtain ⟨e0, e1, b0, b1, l0⟩ := HBX.out _ hx1) | (go_at_call 37; refine (HCK.out _ (hx4.trans hx1)).mono ?_; rintro e w2 ⟨rfl, hx2⟩; obtain ⟨e0, e1, b0, b1, l0⟩ := HBX.out _ (hx1.trans hx2)) | (go_at_call 14; refine (HHO.out _).mono ?_; rintro e w3 ⟨rfl, hx3⟩))
        go_ret2
        exact ⟨rfl, ((hx4.trans hx1).trans hx2).trans hx3⟩
    · rw [if_neg fun h => hsh h.1] at hfe
      subst hfe
      rw [if_neg (by decide)] at hfs
      subst hfs
      rw [shapeE_no hok hsh] at hck
      have HCK := Lib.hid hck
      clear hck hsh hok hho2
      go_enter Tryz.func13, Tryz.ntmps13
      go_wp2_with (first | (go_at_call 36; refine hcon.mono ?_; rintro e w1 ⟨lrp, lrc, rfl, ho, hx1⟩; obtain ⟨e0, e1, b0, b1, l0⟩ := HBX.out _ hx1) | (go_at_call 37; refine (HCK.out _ (hx4.trans hx1)).mono ?_; rintro e w2 ⟨rfl, hx2⟩; obtain ⟨e0, e1, b0, b1, l0⟩ := HBX.out _ (hx1.trans hx2)))
      go_ret2
      exact ⟨rfl, (hx4.trans hx1).trans hx2⟩
  · have hn0 : (er != 0) = true := by rw [bne_iff_ne]; exact h0
    rw [if_pos h0] at hfe
    subst hfe
    rw [if_neg h0] at hfs
    subst hfs
    clear hO hck hho2
    go_enter Tryz.func13, Tryz.ntmps13
    go_wp2_with (go_at_call 36; refine hcon.mono ?_; rintro e w1 ⟨lrp, lrc, rfl, ho, hx1⟩)
    go_ret2
    exact ⟨rfl, hx4.trans hx1⟩

end Go.Proofs.YtcnhlogkhnoacaaGreatDoor
