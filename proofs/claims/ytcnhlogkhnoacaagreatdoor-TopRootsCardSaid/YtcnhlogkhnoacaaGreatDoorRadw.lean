/- Contracts: cognateref13.Form, Check (the head of Radr, without what Radk brings: a claim has at most 60 files). -/
import Derived.Test.YtcnhlogkhnoacaaGreatDoorRadv
import Derived.Test.YtcnhlogkhnoacaaGreatDoorRadh
namespace Go.Cg
open Go.RowKit
theorem own_apart {w : World} {B : Nat} {e T : TypeId} {k n b : Nat} {v : Value} {xs : List Value} {cs : Array Value} {fr : Nat × Nat} (h : w.ownsRow B e k v n xs) (hb : w.heap[b]? = some (.cells cs T fr)) (he : T ≠ e) : some b ≠ v.ownBlock := by
  rcases h.2 with ⟨rfl, _⟩ | ⟨g, cap, cur, rfl, _, hg, _⟩
  · intro h; cases h
  · intro h
    simp only [Value.ownBlock, Option.some.injEq] at h
    subst h
    rw [hb] at hg
    simp only [Option.some.injEq, Obj.cells.injEq] at hg
    exact he hg.2.1
end Go.Cg
namespace Go.Proofs.YtcnhlogkhnoacaaGreatDoor
open Go.RowKit Go.Cg Go.Shelf Go.Maps

/-- the runes that Form answers -/
def formFL (A : Alpha) (nm fm : ByteArray) : List Int := if nmB nm = true then formL A fm else []
def formFB (A : Alpha) (nm fm : ByteArray) : Bool := nmB nm && formB A fm
theorem formFL_yes {A : Alpha} {nm fm : ByteArray} (h : nmB nm = true) : formFL A nm fm = formL A fm := if_pos h
theorem formFL_no {A : Alpha} {nm fm : ByteArray} (h : nmB nm = false) : formFL A nm fm = [] := if_neg (by rw [h]; decide)
theorem formFL_len (A : Alpha) (nm fm : ByteArray) : (formFL A nm fm).length ≤ 65 := by
  unfold formFL; split
  · exact formL_len A fm
  · simp

set_option maxRecDepth 100000 in
set_option maxHeartbeats 4000000 in
theorem Form13_any (fp lp : Option Addr) (fc lc : Nat) (A : Alpha) (nm fm : ByteArray) (hn : nm.size ≤ 140737488351232) (hf : fm.size ≤ 140737488351232) (w : World) (hA : AlphaAt w fp lp A) :
    Calls Tryz.prog 35 #[.agg #[.slice fp A.feats.length fc, .slice lp A.lets.length lc], .agg #[.string nm, .string fm]] w fun e w' => ∃ rp rc, e = .returned (.tuple #[.slice rp (formFL A nm fm).length rc, .bool (formFB A nm fm)]) ∧ OwnRunes 21 w.heap.size w' rp rc (formFL A nm fm) ∧ Ext w w' := by
  have hx4 : Ext w ((w.alloc (.cells #[.slice fp A.feats.length fc, .slice lp A.lets.length lc] 25)).alloc (.cells #[.string nm, .string fm] 41)) := ((Ext.refl _).alloc _).alloc _
  have hxb : Ext (w.alloc (.cells #[.slice fp A.feats.length fc, .slice lp A.lets.length lc] 25)) ((w.alloc (.cells #[.slice fp A.feats.length fc, .slice lp A.lets.length lc] 25)).alloc (.cells #[.string nm, .string fm] 41)) := (Ext.refl _).alloc _
  have hbx : ∀ W, Ext ((w.alloc (.cells #[.slice fp A.feats.length fc, .slice lp A.lets.length lc] 25)).alloc (.cells #[.string nm, .string fm] 41)) W → W.cell? ⟨w.heap.size + 1, 0, none⟩ = some (.string nm) ∧ W.cell? ⟨w.heap.size + 1, 1, none⟩ = some (.string fm) ∧ W.cell? ⟨w.heap.size, 0, none⟩ = some (.slice fp A.feats.length fc) ∧ W.cell? ⟨w.heap.size, 1, none⟩ = some (.slice lp A.lets.length lc) ∧ w.heap.size + 1 < W.heap.size ∧ w.heap.size < W.heap.size := fun W hW => by
    have e0 := hW.cell0 0
    have e1 := hW.cell0 1
    have b0 := (hxb.trans hW).cell0 0
    have b1 := (hxb.trans hW).cell0 1
    have l0 := hW.lt0
    rw [size_alloc] at e0 e1 l0
    exact ⟨e0, e1, b0, b1, l0, by omega⟩
  obtain ⟨i0, hi, hz0, hz1, hz2⟩ := info_parts infoR
  have hnm := fun W => name13_any nm W hn
  cases hnb : nmB nm
  · rw [hnb] at hnm
    rw [formFL_no hnb, show formFB A nm fm = false by unfold formFB; rw [hnb]; rfl]
    have HNM := Lib.hid hnm
    clear hnm hnb
    go_enter Tryz.func35, Tryz.ntmps35
    go_wp2_with (go_at_call 67; refine (HNM.out _).mono ?_; rintro e w1 ⟨rfl, rfl⟩)
    go_ret2
    exact ⟨none, 0, rfl, OwnRunes.nil _ _ _, hx4⟩
  · rw [hnb] at hnm
    have hfl := formFL_yes (A := A) (fm := fm) hnb
    have hfb : formFB A nm fm = formB A fm := by unfold formFB; rw [hnb, Bool.true_and]
    rw [hfl, hfb]
    clear hfl hfb
    obtain ⟨R, hR⟩ : ∃ R, formFrom A fm fm.size 0 [] = R := ⟨_, rfl⟩
    have hL : formL A fm = R.1 := by unfold formL; rw [hR]
    have hB : formB A fm = R.2 := by unfold formB; rw [hR]
    rw [hL, hB]
    have HR := Lib.hid hR
    have HNM := Lib.hid hnm
    clear hnm hnb hL hB hR
    have hsz0 : ((w.alloc (.cells #[.slice fp A.feats.length fc, .slice lp A.lets.length lc] 25)).alloc (.cells #[.string nm, .string fm] 41)).heap.size = w.heap.size + 1 + 1 := by rw [size_alloc, size_alloc]
    go_enter Tryz.func35, Tryz.ntmps35
    go_wp2_with (go_at_call 67; refine (HNM.out _).mono ?_; rintro e w1 ⟨rfl, rfl⟩)
    obtain ⟨W0, hW0⟩ : ∃ W0, (w.alloc (.cells #[.slice fp A.feats.length fc, .slice lp A.lets.length lc] 25)).alloc (.cells #[.string nm, .string fm] 41) = W0 := ⟨_, rfl⟩
    rw [hW0] at hx4 hsz0 hbx ⊢
    have HBX := Lib.hid hbx
    clear hbx hW0 hxb
    go_loopw [6, 7] (fun out at_ wr => ∃ (pos f : Nat) (acc : List Int), at_ = .int .i64 pos ∧ Ext W0 wr ∧ wr.ownsRow W0.heap.size 21 1 out acc.length (acc.map (Value.int .i32)) ∧ acc.length ≤ 65 ∧ Hid (formFrom A fm f pos acc = R) ∧ fm.size ≤ pos + f ∧ pos ≤ fm.size ∧ Hid (∀ r ∈ acc, -2147483648 ≤ r ∧ r ≤ 2147483647)) (fun _ i _ => fm.size - (intOf i).toNat)
    case atStart => exact ⟨0, fm.size, [], rfl, Ext.refl _, World.ownsRow_nil _ _ _ _, by simp, HR.out, by omega, by omega, fun r hr => by cases hr⟩
    case round =>
      clear HR
      obtain ⟨pos, f, acc, rfl, hx, hown, hl, HS, hfu, hp, HW⟩ := hrel
      obtain ⟨rp, rc, rfl⟩ := ownsRow_slice hown
      obtain ⟨e0, e1, b0, b1, l0, l9⟩ := HBX.out _ hx
      by_cases hlt : pos < fm.size
      · by_cases hl64 : acc.length ≤ 64
        · obtain ⟨f, rfl⟩ : ∃ g, f = g + 1 := ⟨f - 1, by omega⟩
          have hw1 := width_pos fm pos hlt
          have hw2 := width_le fm pos hlt
          have hat := fun W => At_any fm pos hlt hf W
          unfold pieceV at hat
          obtain ⟨hr1, hr2⟩ := runeAt_range fm pos
          have hfi := fun W (hW : Ext wr W) => Find_any fp lp fc lc A (runeAt fm pos) W (hA.mono ((hx4.trans hx).trans hW))
          have HAT := Lib.hid hat
          have HFI := Lib.hid hfi
          have HNO := Lib.hid (formFrom_no (A := A) (s := fm) (f := f) (pos := pos) (acc := acc) hlt hl64)
          have HYES := Lib.hid (formFrom_yes (A := A) (s := fm) (f := f) (pos := pos) (acc := acc) hlt hl64)
          have HPB : Hid (pieceB A fm pos = (!badAt fm pos && (runeAt fm pos == 95 || decide (0 ≤ findLetter A (runeAt fm pos))))) := rfl
          clear hat hfi
          go_upto_region 7 with (go_at_call 68; refine (HAT.out wr).mono ?_; rintro e w5 ⟨rfl, hx5⟩)
          have hxe : Ext wr (w5.alloc (.cells #[.int .i32 (runeAt fm pos), .int .i64 (pos : Int), .int .i64 ((Utf8.decode fm pos).2 : Nat), .bool (badAt fm pos)] 59)) := hx5.alloc _
          have q0 := (Ext.refl (w5.alloc (.cells #[.int .i32 (runeAt fm pos), .int .i64 (pos : Int), .int .i64 ((Utf8.decode fm pos).2 : Nat), .bool (badAt fm pos)] 59))).cell0 0
          have q2 := (Ext.refl (w5.alloc (.cells #[.int .i32 (runeAt fm pos), .int .i64 (pos : Int), .int .i64 ((Utf8.decode fm pos).2 : Nat), .bool (badAt fm pos)] 59))).cell0 2
          have q3 := (Ext.refl (w5.alloc (.cells #[.int .i32 (runeAt fm pos), .int .i64 (pos : Int), .int .i64 ((Utf8.decode fm pos).2 : Nat), .bool (badAt fm pos)] 59))).cell0 3
          have lq := (Ext.refl (w5.alloc (.cells #[.int .i32 (runeAt fm pos), .int .i64 (pos : Int), .int .i64 ((Utf8.decode fm pos).2 : Nat), .bool (badAt fm pos)] 59))).lt0
          have hblk := heap_alloc_new w5 (.cells #[.int .i32 (runeAt fm pos), .int .i64 (pos : Int), .int .i64 ((Utf8.decode fm pos).2 : Nat), .bool (badAt fm pos)] 59)
          obtain ⟨W5, hW5⟩ : ∃ W5, w5.alloc (.cells #[.int .i32 (runeAt fm pos), .int .i64 (pos : Int), .int .i64 ((Utf8.decode fm pos).2 : Nat), .bool (badAt fm pos)] 59) = W5 := ⟨_, rfl⟩
          rw [hW5] at hxe q0 q2 q3 lq hblk ⊢
          obtain ⟨pb, hpb⟩ : ∃ pb, w5.heap.size = pb := ⟨_, rfl⟩
          rw [hpb] at q0 q2 q3 lq hblk ⊢
          have hge : W0.heap.size ≤ pb := by rw [← hpb]; exact Nat.le_trans hx.le hx5.le
          clear hW5 hpb hx5 HAT
          obtain ⟨e0, e1, b0, b1, l0, l9⟩ := HBX.out _ (hx.trans hxe)
          have hne : 59 ≠ 21 := by decide
          cases hb : badAt fm pos
          · rw [hb] at HPB q3
            cases h95 : (runeAt fm pos != 95)
            · have hpc : pieceB A fm pos = true := by
                rw [HPB.out, show (runeAt fm pos == 95) = true by simpa using h95]; rfl
              have hst := HYES.out hpc
              rw [HS.out] at hst
              have HST := Lib.hid hst.symm
              clear hst HNO HYES HPB hpc
              go_wp2_with (at_builtin; go_loud (refine wpList_append_own _ rfl _ _ 36 rfl W0.heap.size 21 i0 (.int .i32 0) 1 4 Tryz.underlying36 hi hz0 hz1 hz2 rfl (by decide) _ _ _ rfl ((ownsRow_ext hown hxe).alloc _) ⟨W5.heap.size, 0, none⟩ 1 1 [.int .i32 (runeAt fm pos)] rfl rfl (one_cell _ _ _) (by simp [Value.oneCell']) (by unfold maxLen; omega) (by omega) (by simp; have := hx.le; have := (hxe).le; omega) ?_); intro v' w8 hown8 hgrow _; have r2 := hgrow.cell ((((Ext.refl W5).alloc (.cells #[.int .i32 (runeAt fm pos)] 21)).facts.1 pb 2 lq).trans q2) (own_apart ((ownsRow_ext hown hxe).alloc (.cells #[.int .i32 (runeAt fm pos)] 21)) ((Below.block ((Ext.refl W5).alloc (.cells #[.int .i32 (runeAt fm pos)] 21)) pb lq).trans hblk) hne); have r3 : pb < w8.heap.size := Nat.lt_of_lt_of_le (Nat.lt_of_lt_of_le lq ((Ext.refl W5).alloc (.cells #[.int .i32 (runeAt fm pos)] 21)).le) hgrow.size)
              refine ⟨⟨pos + (Utf8.decode fm pos).2, f, acc ++ [runeAt fm pos], by go_num, Ext.append ((hx.trans (hxe)).alloc _) ((ownsRow_ext hown (hxe)).alloc _) hgrow (Nat.le_refl _), ?_, by simp; omega, HST, by omega, hw2, ?_⟩, by simp [intOf]; omega⟩
              · rw [List.length_append, List.map_append]; exact hown8
              · intro r hr
                rcases List.mem_append.1 hr with h | h
                · exact HW.out r h
                · rw [List.mem_singleton.1 h]; omega
            · have h95' : (runeAt fm pos == 95) = false := by rw [beq_eq_false_iff_ne]; simpa using h95
              by_cases hfd : findLetter A (runeAt fm pos) < 0
              · have hpc : pieceB A fm pos = false := by
                  rw [HPB.out, h95', decide_eq_false (by omega)]; rfl
                have hst := HNO.out hpc
                rw [HS.out] at hst
                subst hst
                have g1 : decide (findLetter A (runeAt fm pos) < 0) = true := decide_eq_true hfd
                clear HNO HYES HPB hpc h95'
                go_wp2_with (go_at_call 69; refine (HFI.out _ hxe).mono ?_; rintro e w6 ⟨rfl, hx6⟩)
                go_ret2
                exact ⟨none, 0, rfl, OwnRunes.nil _ _ _, ((hx4.trans hx).trans hxe).trans hx6⟩
              · have hpc : pieceB A fm pos = true := by
                  rw [HPB.out, h95', decide_eq_true (by omega)]; rfl
                have g1 : decide (findLetter A (runeAt fm pos) < 0) = false := decide_eq_false hfd
                have hst := HYES.out hpc
                rw [HS.out] at hst
                have HST := Lib.hid hst.symm
                clear hst HNO HYES HPB hpc
                go_wp2_with (first | (go_at_call 69; refine (HFI.out _ hxe).mono ?_; rintro e w6 ⟨rfl, hx6⟩; have s0 := (hx6.facts.1 pb 0 lq).trans q0; have s2 := (hx6.facts.1 pb 2 lq).trans q2; have slq := Nat.lt_of_lt_of_le lq hx6.le; have sblk := (Below.block hx6 pb lq).trans hblk; have hxf := hxe.trans hx6) | (at_builtin; go_loud (refine wpList_append_own _ rfl _ _ 36 rfl W0.heap.size 21 i0 (.int .i32 0) 1 4 Tryz.underlying36 hi hz0 hz1 hz2 rfl (by decide) _ _ _ rfl ((ownsRow_ext hown hxf).alloc _) ⟨w6.heap.size, 0, none⟩ 1 1 [.int .i32 (runeAt fm pos)] rfl rfl (one_cell _ _ _) (by simp [Value.oneCell']) (by unfold maxLen; omega) (by omega) (by simp; have := hx.le; have := (hxf).le; omega) ?_); intro v' w8 hown8 hgrow _; have r2 := hgrow.cell ((((Ext.refl w6).alloc (.cells #[.int .i32 (runeAt fm pos)] 21)).facts.1 pb 2 slq).trans s2) (own_apart ((ownsRow_ext hown hxf).alloc (.cells #[.int .i32 (runeAt fm pos)] 21)) ((Below.block ((Ext.refl w6).alloc (.cells #[.int .i32 (runeAt fm pos)] 21)) pb slq).trans sblk) hne); have r3 : pb < w8.heap.size := Nat.lt_of_lt_of_le (Nat.lt_of_lt_of_le slq ((Ext.refl w6).alloc (.cells #[.int .i32 (runeAt fm pos)] 21)).le) hgrow.size))
                refine ⟨⟨pos + (Utf8.decode fm pos).2, f, acc ++ [runeAt fm pos], by go_num, Ext.append ((hx.trans (hxf)).alloc _) ((ownsRow_ext hown (hxf)).alloc _) hgrow (Nat.le_refl _), ?_, by simp; omega, HST, by omega, hw2, ?_⟩, by simp [intOf]; omega⟩
                · rw [List.length_append, List.map_append]; exact hown8
                · intro r hr
                  rcases List.mem_append.1 hr with h | h
                  · exact HW.out r h
                  · rw [List.mem_singleton.1 h]; omega
          · rw [hb] at HPB q3
            have hpc : pieceB A fm pos = false := by rw [HPB.out]; rfl
            have hst := HNO.out hpc
            rw [HS.out] at hst
            subst hst
            clear HNO HYES HPB hpc
            go_wp2_with fail
            go_ret2
            exact ⟨none, 0, rfl, OwnRunes.nil _ _ _, (hx4.trans hx).trans hxe⟩
        · have e : R = (acc, decide (acc.length ≤ 64)) := by rw [← HS.out]; exact formFrom_end (fun h => hl64 h.2)
          subst e
          go_wp2_with fail
          go_ret2
          refine ⟨rp, rc, ?_, ⟨ownsRow_base hown (by omega), by omega, mem_rn HW.out⟩, hx4.trans hx⟩
          simp; omega
      · have e : R = (acc, decide (acc.length ≤ 64)) := by rw [← HS.out]; exact formFrom_end (fun h => hlt h.1)
        subst e
        go_wp2_with fail
        go_ret2
        refine ⟨rp, rc, ?_, ⟨ownsRow_base hown (by omega), by omega, mem_rn HW.out⟩, hx4.trans hx⟩
        simp; omega

set_option maxRecDepth 100000 in
set_option maxHeartbeats 1000000 in
theorem Check13_any (fp lp : Option Addr) (fc lc : Nat) (A : Alpha) (nm fm : ByteArray) (hn : nm.size ≤ 140737488351232) (hf : fm.size ≤ 140737488351232) (w : World) (hA : AlphaAt w fp lp A) :
    Calls Tryz.prog 12 #[.agg #[.slice fp A.feats.length fc, .slice lp A.lets.length lc], .agg #[.string nm, .string fm]] w fun e w' => e = .returned (.int .i64 (shapeE A nm fm)) ∧ Ext w w' := by
  have hx4 : Ext w ((w.alloc (.cells #[.slice fp A.feats.length fc, .slice lp A.lets.length lc] 25)).alloc (.cells #[.string nm, .string fm] 41)) := ((Ext.refl _).alloc _).alloc _
  have hxb : Ext (w.alloc (.cells #[.slice fp A.feats.length fc, .slice lp A.lets.length lc] 25)) ((w.alloc (.cells #[.slice fp A.feats.length fc, .slice lp A.lets.length lc] 25)).alloc (.cells #[.string nm, .string fm] 41)) := (Ext.refl _).alloc _
  have hbx : ∀ W, Ext ((w.alloc (.cells #[.slice fp A.feats.length fc, .slice lp A.lets.length lc] 25)).alloc (.cells #[.string nm, .string fm] 41)) W → W.cell? ⟨w.heap.size + 1, 0, none⟩ = some (.string nm) ∧ W.cell? ⟨w.heap.size + 1, 1, none⟩ = some (.string fm) ∧ W.cell? ⟨w.heap.size, 0, none⟩ = some (.slice fp A.feats.length fc) ∧ W.cell? ⟨w.heap.size, 1, none⟩ = some (.slice lp A.lets.length lc) ∧ w.heap.size + 1 < W.heap.size ∧ w.heap.size < W.heap.size := fun W hW => by
    have e0 := hW.cell0 0
    have e1 := hW.cell0 1
    have b0 := (hxb.trans hW).cell0 0
    have b1 := (hxb.trans hW).cell0 1
    have l0 := hW.lt0
    rw [size_alloc] at e0 e1 l0
    exact ⟨e0, e1, b0, b1, l0, by omega⟩
  have HBX := Lib.hid hbx
  clear hbx
  have hck := Check_any fp lp fc lc A _ (hA.mono hx4)
  have hfo := fun W hW => Form13_any fp lp fc lc A nm fm hn hf W (hA.mono hW)
  have HFO := Lib.hid hfo
  clear hfo
  by_cases hok : A.Ok
  · rw [checkN_ok hok] at hck
    cases hfb : formFB A nm fm
    · have hsh : ¬ (nmB nm = true ∧ formB A fm = true) := fun h => by unfold formFB at hfb; rw [h.1, h.2] at hfb; cases hfb
      rw [shapeE_no hok hsh]
      go_enter Tryz.func12, Tryz.ntmps12
      go_wp2_with (first | (go_at_call 21; refine hck.mono ?_; rintro e w1 ⟨rfl, hx1⟩; obtain ⟨e0, e1, b0, b1, l0, l9⟩ := HBX.out _ hx1) | (go_at_call 35; refine (HFO.out _ (hx4.trans hx1)).mono ?_; rintro e w2 ⟨rp, rc, rfl, ho, hx2⟩; rw [hfb]))
      go_ret
      exact ⟨rfl, (hx4.trans hx1).trans hx2⟩
    · have hsh : nmB nm = true ∧ formB A fm = true := by unfold formFB at hfb; rwa [Bool.and_eq_true] at hfb
      rw [shapeE_ok hok hsh]
      go_enter Tryz.func12, Tryz.ntmps12
      go_wp2_with (first | (go_at_call 21; refine hck.mono ?_; rintro e w1 ⟨rfl, hx1⟩; obtain ⟨e0, e1, b0, b1, l0, l9⟩ := HBX.out _ hx1) | (go_at_call 35; refine (HFO.out _ (hx4.trans hx1)).mono ?_; rintro e w2 ⟨rp, rc, rfl, ho, hx2⟩; rw [hfb]))
      go_ret
      exact ⟨rfl, (hx4.trans hx1).trans hx2⟩
  · rw [checkN_bad hok] at hck
    rw [shapeE_bad hok]
    go_enter Tryz.func12, Tryz.ntmps12
    go_wp2_with (go_at_call 21; refine hck.mono ?_; rintro e w1 ⟨rfl, hx1⟩)
    go_ret
    exact ⟨rfl, hx4.trans hx1⟩

end Go.Proofs.YtcnhlogkhnoacaaGreatDoor
