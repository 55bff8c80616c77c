/- Contracts: cognateref13.Merge, cognateref03.SameWords. -/
import Derived.Test.YtnngljflnfjppaaDoorRadr
import Derived.Test.YtnngljflnfjppaaDoorRadn
namespace Go.Proofs.YtnngljflnfjppaaDoor
open Go.RowKit Go.Cg Go.Shelf Go.Maps

set_option maxRecDepth 100000 in
set_option maxHeartbeats 2000000 in
theorem Merge13_any (fp lp : Option Addr) (fc lc : Nat) (A : Alpha) (s nm fm : ByteArray) (hs : s.size ≤ 140737488351232) (hn : nm.size ≤ 140737488351232) (hf : fm.size ≤ 140737488351232) (w : World) (hA : AlphaAt w fp lp A) (hT : Tabs w) :
    Calls Tryd.prog 21 #[.agg #[.slice fp A.feats.length fc, .slice lp A.lets.length lc], .string s, .agg #[.string nm, .string fm]] w fun e w' => e = .returned (.tuple #[.string (mergeS A s nm fm), .int .i64 (mergeE A s nm fm)]) ∧ Ext w w' := by
  have hx4 : Ext w ((w.alloc (.cells #[.slice fp A.feats.length fc, .slice lp A.lets.length lc] 26)).alloc (.cells #[.string nm, .string fm] 41)) := ((Ext.refl _).alloc _).alloc _
  have hxb : Ext (w.alloc (.cells #[.slice fp A.feats.length fc, .slice lp A.lets.length lc] 26)) ((w.alloc (.cells #[.slice fp A.feats.length fc, .slice lp A.lets.length lc] 26)).alloc (.cells #[.string nm, .string fm] 41)) := (Ext.refl _).alloc _
  have hbx : ∀ W, Ext ((w.alloc (.cells #[.slice fp A.feats.length fc, .slice lp A.lets.length lc] 26)).alloc (.cells #[.string nm, .string fm] 41)) W → W.cell? ⟨w.heap.size + 1, 0, none⟩ = some (.string nm) ∧ W.cell? ⟨w.heap.size + 1, 1, none⟩ = some (.string fm) ∧ W.cell? ⟨w.heap.size, 0, none⟩ = some (.slice fp A.feats.length fc) ∧ W.cell? ⟨w.heap.size, 1, none⟩ = some (.slice lp A.lets.length lc) ∧ w.heap.size + 1 < W.heap.size ∧ w.heap.size < W.heap.size := fun W hW => by
    have e0 := hW.cell0 0
    have e1 := hW.cell0 1
    have b0 := (hxb.trans hW).cell0 0
    have b1 := (hxb.trans hW).cell0 1
    have l0 := hW.lt0
    rw [size_alloc] at e0 e1 l0
    exact ⟨e0, e1, b0, b1, l0, by omega⟩
  have HBX := Lib.hid hbx
  clear hbx
  obtain ⟨i0, hi, hz0, hz1, hz2⟩ := info_parts infoR
  have hcon := Letters_any fp lp fc lc A s hs _ (hA.mono hx4) (hT.ext hx4)
  have hfo := fun W hW => Form13_any fp lp fc lc A nm fm hn hf W (hA.mono hW)
  have hho := fun W => holes13_any nm fm hf W
  have hfol := formFL_len A nm fm
  have h64 := spell_len A s
  have hO := fun (h : (spell A s).2 = 0) => (spell_ok h).1
  have hfe := mergeE_eq A s nm fm
  have hfs := mergeS_eq A s nm fm
  have hcle := txtHoles_le fm
  have hho2 := fun h1 h2 => form_holes (A := A) (s := fm) h1 h2
  have hfL := fun h => formFL_yes (A := A) (nm := nm) (fm := fm) h
  have hfB : formFB A nm fm = (nmB nm && formB A fm) := rfl
  obtain ⟨H, hH⟩ : ∃ H, txtHoles fm = H := ⟨_, rfl⟩
  obtain ⟨F, hF⟩ : ∃ F, mergeE A s nm fm = F := ⟨_, rfl⟩
  obtain ⟨S, hS⟩ : ∃ S, mergeS A s nm fm = S := ⟨_, rfl⟩
  rw [hH] at hfe hho hcle hho2
  rw [hF] at hfe hfs
  rw [hS] at hfs
  rw [hF, hS]
  clear hF hS hH
  obtain ⟨l, hl⟩ : ∃ l, (spell A s).1 = l := ⟨_, rfl⟩
  obtain ⟨er, her⟩ : ∃ er, (spell A s).2 = er := ⟨_, rfl⟩
  rw [hl, her] at hcon
  rw [her] at hO
  rw [hl] at hfs h64
  rw [hl, her] at hfe
  clear hl her
  have HHO := Lib.hid hho
  clear hho
  by_cases h0 : er = 0
  · subst h0
    rw [if_neg (by decide : ¬ ((0 : Int) ≠ 0))] at hfe
    have hok := hO rfl
    clear hO
    by_cases hsh : nmB nm = true ∧ formB A fm = true
    · rw [hfB, hsh.1, hsh.2] at hfo
      have HFO := Lib.hid hfo
      clear hfo
      by_cases hcnt : H = l.length
      · rw [if_pos ⟨hsh, hcnt⟩] at hfe
        subst hfe
        rw [if_pos rfl] at hfs
        have hh := hho2 hok hsh.2
        have hff := hfL hsh.1
        rw [← hff] at hfs hh
        clear hfL hff hfB
        obtain ⟨f, hf2⟩ : ∃ f, formFL A nm fm = f := ⟨_, rfl⟩
        rw [hf2] at HFO hfol hfs hh
        subst hfs
        have g1 : ((H : Int) != l.length) = false := by rw [hcnt]; simp
        have HHH := Lib.hid (show holeN f = l.length by omega)
        clear hsh hok hho2 hh hf2
        subst hcnt
        go_enter Tryd.func21, Tryd.ntmps21
        go_wp2_with (first | (go_at_call 49; refine hcon.mono ?_; rintro e w1 ⟨lrp, lrc, rfl, ho, hx1⟩; obtain ⟨e0, e1, b0, b1, l0, l9⟩ := HBX.out _ hx1) | (go_at_call 50; refine (HFO.out _ (hx4.trans hx1)).mono ?_; rintro e w2 ⟨frp, frc, rfl, hof, hx2⟩; obtain ⟨e0, e1, b0, b1, l0, l9⟩ := HBX.out _ (hx1.trans hx2)) | (go_at_call 30; refine (HHO.out _).mono ?_; rintro e w3 ⟨rfl, hx3⟩))
        have hoL := ((ho.at_.mono hx2).mono hx3)
        have hoF := (hof.at_.mono hx3)
        have hwfL := ho.2.2
        have hwfF := hof.2.2
        have hxw := ((hx4.trans hx1).trans hx2).trans hx3
        clear e0 e1 b0 b1 l0 l9 hcon HFO HHO
        go_loopw [12, 13, 14] (fun kv out i wr => ∃ j : Nat, j ≤ f.length ∧ i = .int .i64 j ∧ kv = .int .i64 (holeN (f.take j) : Nat) ∧ Ext w3 wr ∧ wr.ownsRow w3.heap.size 21 1 out j ((fillTo l f j).map (Value.int .i32))) (fun _ _ i _ => f.length - (intOf i).toNat)
        case atStart => exact ⟨0, Nat.zero_le _, rfl, rfl, Ext.refl _, World.ownsRow_nil _ _ _ _⟩
        case round =>
          obtain ⟨j, hj, rfl, rfl, hx, hown⟩ := hrel
          obtain ⟨rp, rc, rfl⟩ := ownsRow_slice hown
          have hkle := holeN_take_le f j
          rw [HHH.out] at hkle
          by_cases hlt : j < f.length
          · obtain ⟨b, off, e0, hbw, c0⟩ := (hoF.mono hx).cells hlt
            subst e0
            have htk := holeN_take hlt
            cases he : (rn f j == 95)
            · have he' : rn f j ≠ 95 := by simpa using he
              rw [if_neg he'] at htk
              have hst : (fillTo l f (j + 1)).map (Value.int .i32) = (fillTo l f j).map (Value.int .i32) ++ [.int .i32 (rn f j)] := by rw [fillTo, if_neg he', List.map_append]; rfl
              have HS := Lib.hid hst
              have HTK := Lib.hid htk
              clear hst htk he'
              go_wp2_with (at_builtin; go_loud (refine wpList_append_own _ rfl _ _ 33 rfl w3.heap.size 21 i0 (.int .i32 0) 1 4 Tryd.underlying33 hi hz0 hz1 hz2 rfl (by decide) _ _ _ rfl (hown.alloc _) ⟨wr.heap.size, 0, none⟩ 1 1 [.int .i32 (rn f j)] rfl rfl (one_cell _ _ _) (by simp [Value.oneCell']) (by unfold maxLen; omega) (by omega) (by simp; have := hx.le; omega) ?_); intro v' w6 hown6 hgrow _)
              refine ⟨⟨j + 1, by omega, by go_num, by rw [HTK.out]; rfl, Ext.append (hx.alloc _) (hown.alloc _) hgrow (Nat.le_refl _), ?_⟩, by simp [intOf]; omega⟩
              rw [HS.out]; exact hown6
            · have he' : rn f j = 95 := by simpa using he
              rw [if_pos he'] at htk
              have hkl := holeN_lt hlt he'
              rw [HHH.out] at hkl
              obtain ⟨b2, off2, e2, hbw2, c2⟩ := (hoL.mono hx).cells hkl
              subst e2
              have hst : (fillTo l f (j + 1)).map (Value.int .i32) = (fillTo l f j).map (Value.int .i32) ++ [.int .i32 (rn l (holeN (f.take j)))] := by rw [fillTo, if_pos he', List.map_append]; rfl
              have HS := Lib.hid hst
              have HTK := Lib.hid htk
              clear hst htk he'
              obtain ⟨kk, hkk⟩ : ∃ kk, holeN (f.take j) = kk := ⟨_, rfl⟩
              have HKK := Lib.hid hkk
              rw [hkk] at hkl hkle c2 ⊢
              clear hkk
              go_wp2_with (at_builtin; go_loud (refine wpList_append_own _ rfl _ _ 33 rfl w3.heap.size 21 i0 (.int .i32 0) 1 4 Tryd.underlying33 hi hz0 hz1 hz2 rfl (by decide) _ _ _ rfl (hown.alloc _) ⟨wr.heap.size, 0, none⟩ 1 1 [.int .i32 (rn l kk)] rfl rfl (one_cell _ _ _) (by simp [Value.oneCell']) (by unfold maxLen; omega) (by omega) (by simp; have := hx.le; omega) ?_); intro v' w6 hown6 hgrow _)
              refine ⟨⟨j + 1, by omega, by go_num, by rw [HTK.out, HKK.out]; go_num, Ext.append (hx.alloc _) (hown.alloc _) hgrow (Nat.le_refl _), ?_⟩, by simp [intOf]; omega⟩
              rw [HS.out, HKK.out]; exact hown6
          · have e : j = f.length := by omega
            subst e
            have hlen := fillTo_len l f f.length
            have hwf : ∀ r ∈ fillTo l f f.length, -2147483648 ≤ r ∧ r ≤ 2147483647 := fun r hr => by
              rcases fillTo_mem f.length (Nat.le_refl _) (by rw [HHH.out]; exact Nat.le_refl _) hr with hm | hm
              · obtain ⟨i, hi, e⟩ := List.getElem_of_mem hm
                have := hwfL i hi
                rwa [rn_eq hi, e] at this
              · obtain ⟨i, hi, e⟩ := List.getElem_of_mem hm.1
                have := hwfF i hi
                rwa [rn_eq hi, e] at this
            have hor : OwnRunes 21 w3.heap.size wr rp rc (fillTo l f f.length) := ⟨by rw [hlen]; exact hown, by omega, mem_rn hwf⟩
            have htx := Text_any rp rc _ (by omega) wr hor.at_
            rw [hlen] at htx
            have HTX := Lib.hid htx
            clear htx
            go_wp2_with (go_at_call 48; refine HTX.out.mono ?_; rintro e w5 ⟨rfl, hx5⟩)
            go_ret2
            exact ⟨rfl, (hxw.trans hx).trans hx5⟩
      · rw [if_neg fun h => hcnt h.2] at hfe
        subst hfe
        rw [if_neg (by decide)] at hfs
        subst hfs
        have g1 : ((H : Int) != l.length) = true := by rw [bne_iff_ne]; omega
        clear hho2 hfL hfB
        go_enter Tryd.func21, Tryd.ntmps21
        go_wp2_with (first | (go_at_call 49; refine hcon.mono ?_; rintro e w1 ⟨lrp, lrc, rfl, ho, hx1⟩; obtain ⟨e0, e1, b0, b1, l0, l9⟩ := HBX.out _ hx1) | (go_at_call 50; refine (HFO.out _ (hx4.trans hx1)).mono ?_; rintro e w2 ⟨frp, frc, rfl, hof, hx2⟩; obtain ⟨e0, e1, b0, b1, l0, l9⟩ := HBX.out _ (hx1.trans hx2)) | (go_at_call 30; refine (HHO.out _).mono ?_; rintro e w3 ⟨rfl, hx3⟩))
        go_ret2
        exact ⟨rfl, ((hx4.trans hx1).trans hx2).trans hx3⟩
    · rw [if_neg fun h => hsh h.1] at hfe
      subst hfe
      rw [if_neg (by decide)] at hfs
      subst hfs
      have hno : formFB A nm fm = false := by
        rw [hfB]
        cases h1 : nmB nm
        · rfl
        · cases h2 : formB A fm
          · rfl
          · exact absurd ⟨h1, h2⟩ hsh
      rw [hno] at hfo
      have HFO := Lib.hid hfo
      clear hfo hsh hok hho2 hfL hfB hno
      go_enter Tryd.func21, Tryd.ntmps21
      go_wp2_with (first | (go_at_call 49; refine hcon.mono ?_; rintro e w1 ⟨lrp, lrc, rfl, ho, hx1⟩; obtain ⟨e0, e1, b0, b1, l0, l9⟩ := HBX.out _ hx1) | (go_at_call 50; refine (HFO.out _ (hx4.trans hx1)).mono ?_; rintro e w2 ⟨frp, frc, rfl, hof, hx2⟩; obtain ⟨e0, e1, b0, b1, l0, l9⟩ := HBX.out _ (hx1.trans hx2)))
      go_ret2
      exact ⟨rfl, (hx4.trans hx1).trans hx2⟩
  · have hn0 : (er != 0) = true := by rw [bne_iff_ne]; exact h0
    rw [if_pos h0] at hfe
    subst hfe
    rw [if_neg h0] at hfs
    subst hfs
    clear hO hfo hho2 hfL hfB
    go_enter Tryd.func21, Tryd.ntmps21
    go_wp2_with (go_at_call 49; refine hcon.mono ?_; rintro e w1 ⟨lrp, lrc, rfl, ho, hx1⟩)
    go_ret2
    exact ⟨rfl, hx4.trans hx1⟩

/-- a row of texts that is read -/
def txt (l : List ByteArray) (j : Nat) : ByteArray := l.getD j ByteArray.empty
theorem textCells_at {a : List ByteArray} {i : Nat} (h : i < a.length) : (textCells a)[i]? = some (.string (txt a i)) := by simp [textCells, txt, List.getD, h]

set_option maxHeartbeats 1000000 in
theorem SameWords_any (pa pb : Option Addr) (ca cb : Nat) (a : List ByteArray) (ha : a.length ≤ 100000) (w : World) (h1 : Reads w pa a.length fun j => .string (txt a j)) (h2 : Reads w pb a.length fun j => .string (txt a j)) :
    Calls Tryd.prog 26 #[.slice pa a.length ca, .slice pb a.length cb] w fun e w' => e = .returned (.bool true) ∧ Ext w w' := by
  go_enter Tryd.func26, Tryd.ntmps26
  go_wp2_with fail
  go_loopw [5] (fun i wr => ∃ k : Nat, k ≤ a.length ∧ i = .int .i64 k ∧ Ext w wr) (fun i _ => a.length - (intOf i).toNat)
  case atStart => exact ⟨0, Nat.zero_le _, rfl, Ext.refl _⟩
  case round =>
    obtain ⟨k, hk, rfl, hx⟩ := hrel
    by_cases hlt : k < a.length
    · obtain ⟨b1, o1, rfl, hb1, k0⟩ := (h1.mono hx).cells_ hlt
      obtain ⟨b2, o2, rfl, hb2, k1⟩ := (h2.mono hx).cells_ hlt
      have c0 := k0 k hlt
      have d0 := k1 k hlt
      clear k0 k1
      go_wp2_with fail
      (refine wp_region_ext (by kernel_rfl) (by kernel_rfl) ?_; intro ι hι g hg; have q_c0 := hg.cell c0; have q_d0 := hg.cell d0; clear c0 d0; (repeat (go_big_quiet_step (fail))); refine wpQuiet_nil ?_; rintro w2 ⟨i2, rfl⟩; have hq := hg.ext i2; generalize g i2 = w2 at hq ⊢; clear q_c0 q_d0 i2 hg g hι ι)
      go_wp2_with fail
      exact ⟨⟨k + 1, by omega, by go_num, hx.trans hq⟩, by simp [intOf]; omega⟩
    · go_wp2_with fail
      go_ret
      exact ⟨rfl, hx⟩

end Go.Proofs.YtnngljflnfjppaaDoor
