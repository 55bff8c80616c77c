/- Contracts: radical.Check, radical.Holes. -/
import Derived.Test.YtcnhlogkhnoacaaGreatDoorRadc
import Derived.Test.YtcnhlogkhnoacaaGreatDoorRadg
import Derived.Test.YtcnhlogkhnoacaaGreatDoorFeatf
import Derived.Test.YtcnhlogkhnoacaaGreatDoorShelh
import Derived.Shelf.Unicode.ValidAny
import Derived.Shelf.Utf8.RuneCount
namespace Go.Proofs.YtcnhlogkhnoacaaGreatDoor
open Go.RowKit Go.Cg Go.Shelf Go.Maps

def shapeE (A : Alpha) (nm fm : ByteArray) : Int := if A.Ok then (if nmB nm = true ∧ formB A fm = true then 0 else 130) else 7
theorem shapeE_no {A : Alpha} {nm fm : ByteArray} (h : A.Ok) (h2 : ¬ (nmB nm = true ∧ formB A fm = true)) : shapeE A nm fm = 130 := by unfold shapeE; rw [if_pos h, if_neg h2]
theorem shapeE_ok {A : Alpha} {nm fm : ByteArray} (h : A.Ok) (h2 : nmB nm = true ∧ formB A fm = true) : shapeE A nm fm = 0 := by unfold shapeE; rw [if_pos h, if_pos h2]
theorem shapeE_bad {A : Alpha} {nm fm : ByteArray} (h : ¬ A.Ok) : shapeE A nm fm = 7 := by unfold shapeE; rw [if_neg h]

theorem count_any (s : ByteArray) (w : World) :
    Calls Tryz.prog 38 #[.string s, .string ⟨#[95]⟩] w fun e w' => e = .returned (.int .i64 ((txtHoles s : Nat) : Int)) ∧ w' = w := Any.strings_Count_one Tryz.lays138 s 95 w
theorem valid_any (s : ByteArray) (w : World) (hs : s.size ≤ 140737488351232) (hT : Tabs w) :
    Calls Tryz.prog 73 #[.string s] w fun e w' => e = .returned (.bool (soundFrom s s.size 0)) ∧ Ext w w' := by
  have h := Any.utf8_ValidString Tryz.lays196 s w (by omega) hT
  rw [valid_sound] at h
  exact h
theorem runeCount_any (s : ByteArray) (w : World) (hs : s.size ≤ 140737488351232) :
    Calls Tryz.prog 74 #[.string s] w fun e w' => e = .returned (.int .i64 ((Lib.runeCount s : Nat) : Int)) ∧ Ext w w' :=
  (Any.utf8_RuneCountInString Tryz.lays195 s w (by omega)).mono fun e w' h => ⟨h.1, by obtain ⟨pos, rfl⟩ := h.2; exact (Ext.refl _).alloc _⟩

set_option maxHeartbeats 400000 in
theorem holes_any (nm fm : ByteArray) (w : World) :
    Calls Tryz.prog 14 #[.agg #[.string nm, .string fm]] w fun e w' => e = .returned (.int .i64 ((txtHoles fm : Nat) : Int)) ∧ Ext w w' := by
  go_enter Tryz.func14, Tryz.ntmps14
  go_wp2_with (go_at_call 38; refine (count_any fm _).mono ?_; rintro e w1 ⟨rfl, rfl⟩)
  go_ret
  exact ⟨rfl, (Ext.refl _).alloc _⟩

set_option maxRecDepth 100000 in
set_option maxHeartbeats 4000000 in
theorem shapeCheck_any (fp lp : Option Addr) (fc lc : Nat) (A : Alpha) (nm fm : ByteArray) (hn : nm.size ≤ 140737488351232) (hf : fm.size ≤ 140737488351232) (w : World) (hA : AlphaAt w fp lp A) (hT : Tabs w) :
    Calls Tryz.prog 37 #[.agg #[.slice fp A.feats.length fc, .slice lp A.lets.length lc], .agg #[.string nm, .string fm]] w fun e w' => e = .returned (.int .i64 (shapeE A nm fm)) ∧ Ext w w' := by
  have hx4 : Ext w ((w.alloc (.cells #[.slice fp A.feats.length fc, .slice lp A.lets.length lc] 25)).alloc (.cells #[.string nm, .string fm] 41)) := ((Ext.refl _).alloc _).alloc _
  have hxb : Ext (w.alloc (.cells #[.slice fp A.feats.length fc, .slice lp A.lets.length lc] 25)) ((w.alloc (.cells #[.slice fp A.feats.length fc, .slice lp A.lets.length lc] 25)).alloc (.cells #[.string nm, .string fm] 41)) := (Ext.refl _).alloc _
  have hchk := check_any fp lp fc lc A _ (hA.mono hx4)
  have hbx : ∀ W, Ext ((w.alloc (.cells #[.slice fp A.feats.length fc, .slice lp A.lets.length lc] 25)).alloc (.cells #[.string nm, .string fm] 41)) W → W.cell? ⟨w.heap.size + 1, 0, none⟩ = some (.string nm) ∧ W.cell? ⟨w.heap.size + 1, 1, none⟩ = some (.string fm) ∧ W.cell? ⟨w.heap.size, 0, none⟩ = some (.slice fp A.feats.length fc) ∧ W.cell? ⟨w.heap.size, 1, none⟩ = some (.slice lp A.lets.length lc) ∧ w.heap.size + 1 < W.heap.size := fun W hW => by
    have e0 := hW.cell0 0
    have e1 := hW.cell0 1
    have b0 := (hxb.trans hW).cell0 0
    have b1 := (hxb.trans hW).cell0 1
    have l0 := hW.lt0
    rw [size_alloc] at e0 e1 l0
    exact ⟨e0, e1, b0, b1, l0⟩
  have hsz0 : ((w.alloc (.cells #[.slice fp A.feats.length fc, .slice lp A.lets.length lc] 25)).alloc (.cells #[.string nm, .string fm] 41)).heap.size = w.heap.size + 1 + 1 := by rw [size_alloc, size_alloc]
  have HBX := Lib.hid hbx
  clear hbx
  have htr := fun W => Any.strings_Trim_laid Tryz.lays160 (by kernel_rfl) nm ⟨#[97, 98, 99, 100, 101, 102, 103, 104, 105, 106, 107, 108, 109, 110, 111, 112, 113, 114, 115, 116, 117, 118, 119, 120, 121, 122, 48, 49, 50, 51, 52, 53, 54, 55, 56, 57, 45]⟩ W (by omega) (by decide) (ascii_of_all (by decide))
  change ∀ W, Calls Tryz.prog 72 _ _ _ at htr
  generalize hr : (⟨(Lib.trimS nm.data.toList (⟨#[97, 98, 99, 100, 101, 102, 103, 104, 105, 106, 107, 108, 109, 110, 111, 112, 113, 114, 115, 116, 117, 118, 119, 120, 121, 122, 48, 49, 50, 51, 52, 53, 54, 55, 56, 57, 45]⟩ : ByteArray).data.toList).toArray⟩ : ByteArray) = r at htr
  have HC := Lib.hid htr
  clear htr
  have HR := Lib.hid (trim_nm nm r hr)
  clear hr
  have hva := fun W hW => valid_any fm W hf (hT.ext hW)
  have hrc := fun W => runeCount_any fm W hf
  obtain ⟨V, hV⟩ : ∃ V, soundFrom fm fm.size 0 = V := ⟨_, rfl⟩
  obtain ⟨N, hN⟩ : ∃ N, Lib.runeCount fm = N := ⟨_, rfl⟩
  have hN2 : N ≤ fm.size := by rw [← hN]; exact Lib.runeCount_le fm
  rw [hV] at hva
  rw [hN] at hrc
  have HVA := Lib.hid hva
  have HRC := Lib.hid hrc
  clear hva hrc
  have hform : formB A fm = (decide (N ≤ 64) && allFrom A fm fm.size 0) := by rw [formB_eq, hN]
  have HFM := Lib.hid hform
  have hVall : allFrom A fm fm.size 0 = true → V = true := fun h => by rw [← hV]; exact allFrom_sound A fm _ _ h
  have HVSND := Lib.hid hVall
  have HVV := Lib.hid hV
  clear hform hVall hV hN
  by_cases hok : A.Ok
  · rw [checkN_ok hok] at hchk
    have hE := fun h2 => shapeE_no (nm := nm) (fm := fm) hok h2
    have hE2 := fun h2 => shapeE_ok (nm := nm) (fm := fm) hok h2
    obtain ⟨E, hEE⟩ : ∃ E, shapeE A nm fm = E := ⟨_, rfl⟩
    rw [hEE] at hE hE2 ⊢
    have HE := Lib.hid hE
    have HE2 := Lib.hid hE2
    clear hE hE2 hEE
    by_cases hle : nm.size ≤ 32
    · cases hz : r.toList.isEmpty
      · have hres : E = 130 := HE.out fun h => by
          have h1 := h.1
          unfold nmB at h1
          rw [← HR.out, hz] at h1
          simp at h1
        subst hres
        go_enter Tryz.func37, Tryz.ntmps37
        go_wp2_with (first | (go_at_call 33; refine hchk.mono ?_; rintro e w1 ⟨rfl, hx1⟩; obtain ⟨e0, e1, b0, b1, l0⟩ := HBX.out _ hx1) | (go_at_call 72; refine (HC.out _).mono ?_; rintro e w2 ⟨rfl, hx2⟩))
        go_ret
        exact ⟨rfl, (hx4.trans hx1).trans hx2⟩
      · have hnm : nmB nm = true := by
          unfold nmB
          rw [← HR.out, hz, decide_eq_true hle]; rfl
        cases V
        · have hres : E = 130 := HE.out fun h => by
            have h2 := h.2
            rw [HFM.out, Bool.and_eq_true] at h2
            have := HVSND.out h2.2
            cases this
          subst hres
          go_enter Tryz.func37, Tryz.ntmps37
          go_wp2_with (first | (go_at_call 33; refine hchk.mono ?_; rintro e w1 ⟨rfl, hx1⟩; obtain ⟨e0, e1, b0, b1, l0⟩ := HBX.out _ hx1) | (go_at_call 72; refine (HC.out _).mono ?_; rintro e w2 ⟨rfl, hx2⟩; obtain ⟨e0, e1, b0, b1, l0⟩ := HBX.out _ (hx1.trans hx2)) | (go_at_call 73; refine (HVA.out _ ((hx4.trans hx1).trans hx2)).mono ?_; rintro e w3 ⟨rfl, hx3⟩; obtain ⟨e0, e1, b0, b1, l0⟩ := HBX.out _ ((hx1.trans hx2).trans hx3)))
          go_ret
          exact ⟨rfl, ((hx4.trans hx1).trans hx2).trans hx3⟩
        · by_cases hcnt : N ≤ 64
          · go_enter Tryz.func37, Tryz.ntmps37
            go_wp2_with (first | (go_at_call 33; refine hchk.mono ?_; rintro e w1 ⟨rfl, hx1⟩; obtain ⟨e0, e1, b0, b1, l0⟩ := HBX.out _ hx1) | (go_at_call 72; refine (HC.out _).mono ?_; rintro e w2 ⟨rfl, hx2⟩; obtain ⟨e0, e1, b0, b1, l0⟩ := HBX.out _ (hx1.trans hx2)) | (go_at_call 73; refine (HVA.out _ ((hx4.trans hx1).trans hx2)).mono ?_; rintro e w3 ⟨rfl, hx3⟩; obtain ⟨e0, e1, b0, b1, l0⟩ := HBX.out _ ((hx1.trans hx2).trans hx3)) | (go_at_call 74; refine (HRC.out _).mono ?_; rintro e w4 ⟨rfl, hx5⟩; obtain ⟨e0, e1, b0, b1, l0⟩ := HBX.out _ (((hx1.trans hx2).trans hx3).trans hx5)))
            have hx6 := ((hx1.trans hx2).trans hx3).trans hx5
            obtain ⟨W0, hW0⟩ : ∃ W0, (w.alloc (.cells #[.slice fp A.feats.length fc, .slice lp A.lets.length lc] 25)).alloc (.cells #[.string nm, .string fm] 41) = W0 := ⟨_, rfl⟩
            rw [hW0] at hx6 hx4 hsz0
            have hbx2 := HBX.out
            rw [hW0] at hbx2
            have HBY := Lib.hid hbx2
            clear hbx2 hW0 e0 e1 b0 b1 l0 hchk hx1 hx2 hx3 hx5 HBX hxb
            have hk4 : W0.heap.size ≤ w4.heap.size := hx6.le
            go_loopw [] (fun wr => ∃ pos f : Nat, Hid (soundFrom fm f pos = true) ∧ Hid (allFrom A fm f pos = allFrom A fm fm.size 0) ∧ fm.size ≤ pos + f ∧ pos ≤ fm.size ∧ wr.heap[w4.heap.size]? = some (.stringIter fm pos) ∧ Ext W0 wr) (fun wr => fm.size - wr.iterPos w4.heap.size)
            case atStart => exact ⟨0, fm.size, HVV.out, rfl, by omega, by omega, World.iter_heap w4 fm 0, hx6.alloc _⟩
            case round =>
              obtain ⟨pos, f, HS, HAL, hfu, hpl, hit, hx⟩ := hrel
              by_cases hp : pos < fm.size
              · obtain ⟨f, rfl⟩ : ∃ g, f = g + 1 := ⟨f - 1, by omega⟩
                have hnx0 : ∀ ty, (Instr.next (.pointer (some ⟨w4.heap.size, 0, none⟩)) true ty).run Tryz.prog wr = _ := fun ty => Lib.run_next_any_at wr w4.heap.size fm pos ty hit hp
                have hw1 := width_pos fm pos hp
                have hw2 := width_le fm pos hp
                have hs1 := HS.out
                rw [soundFrom_step hp, Bool.and_eq_true] at hs1
                have hal := HAL.out
                rw [allFrom_step hp] at hal
                have hbad : badAt fm pos = false := by simpa using hs1.1
                obtain ⟨W1, hW1⟩ : ∃ W1, wr.iterAt w4.heap.size fm (pos + (Utf8.decode fm pos).2) = W1 := ⟨_, rfl⟩
                have hit1 := Lib.iterAt_heap wr w4.heap.size fm pos (pos + (Utf8.decode fm pos).2) hit
                have hxw := hx.iterAt (k := w4.heap.size) hk4 fm (pos + (Utf8.decode fm pos).2)
                have hl1 := Lib.iterAt_size wr w4.heap.size fm (pos + (Utf8.decode fm pos).2)
                rw [hW1] at hnx0 hit1 hxw hl1
                have hkl : w4.heap.size < W1.heap.size := (Array.getElem?_eq_some_iff.1 hit1).1
                have hnx : ∀ ty, (Instr.next (.pointer (some ⟨w4.heap.size, 0, none⟩)) true ty).run Tryz.prog wr = .ok (.tuple #[.bool true, .int .i64 pos, .int .i32 (runeAt fm pos)]) W1 := hnx0
                have HIT := Lib.hid hit
                have HIT1 := Lib.hid hit1
                obtain ⟨e0, e1, b0, b1, l0⟩ := HBY.out W1 hxw
                have hof := of_any fp lp fc lc A (runeAt fm pos) W1 (hA.mono (hx4.trans hxw))
                have HX := Lib.hid hxw
                have HS1 := Lib.hid hs1.2
                have HAL1 := Lib.hid hal
                have HB := Lib.hid hbad
                clear hit hit1 hnx0 hW1 hxw hx hs1 hal hbad HS HAL
                by_cases hfl : 0 ≤ findLetter A (runeAt fm pos)
                · rw [ofE_ok hok hfl] at hof
                  have HOF := Lib.hid hof
                  clear hof
                  have hpc : pieceB A fm pos = true := by unfold pieceB; rw [HB.out, decide_eq_true hfl]; simp
                  have HPC := Lib.hid hpc
                  clear hpc
                  go_wp2_with (go_at_call 75; refine HOF.out.mono ?_; rintro e w5 ⟨rfl, hx7⟩)
                  have hxe := hx7.alloc (.cells #[.int .i32 (ofL A (runeAt fm pos)).rune, .int .u32 ((ofL A (runeAt fm pos)).plus : Int), .int .u32 ((ofL A (runeAt fm pos)).minus : Int)] 114)
                  have hit5 := (Below.block hxe w4.heap.size hkl).trans HIT1.out
                  refine ⟨⟨pos + (Utf8.decode fm pos).2, f, HS1.out, ?_, by omega, hw2, hit5, HX.out.trans hxe⟩, ?_⟩
                  · have h := HAL1.out
                    rw [HPC.out, Bool.true_and] at h
                    exact h
                  · have hit0 := HIT.out
                    simp only [World.iterPos, hit5, hit0]
                    omega
                · rw [ofE_none hok hfl] at hof
                  have HOF := Lib.hid hof
                  clear hof
                  by_cases h95 : runeAt fm pos = 95
                  · have g1 : (runeAt fm pos != 95) = false := by rw [h95]; rfl
                    have hpc : pieceB A fm pos = true := by unfold pieceB; rw [HB.out, h95]; rfl
                    have HPC := Lib.hid hpc
                    clear hpc h95
                    go_wp2_with (go_at_call 75; refine HOF.out.mono ?_; rintro e w5 ⟨rfl, hx7⟩)
                    have hxe := hx7.alloc (.cells #[.int .i32 (ofL A (runeAt fm pos)).rune, .int .u32 ((ofL A (runeAt fm pos)).plus : Int), .int .u32 ((ofL A (runeAt fm pos)).minus : Int)] 114)
                    have hit5 := (Below.block hxe w4.heap.size hkl).trans HIT1.out
                    refine ⟨⟨pos + (Utf8.decode fm pos).2, f, HS1.out, ?_, by omega, hw2, hit5, HX.out.trans hxe⟩, ?_⟩
                    · have h := HAL1.out
                      rw [HPC.out, Bool.true_and] at h
                      exact h
                    · have hit0 := HIT.out
                      simp only [World.iterPos, hit5, hit0]
                      omega
                  · have g1 : (runeAt fm pos != 95) = true := by rw [bne_iff_ne]; exact h95
                    have hpc : pieceB A fm pos = false := by
                      unfold pieceB
                      rw [HB.out, decide_eq_false hfl]
                      have : (runeAt fm pos == 95) = false := by rw [beq_eq_false_iff_ne]; exact h95
                      rw [this]; rfl
                    have hal := HAL1.out
                    rw [hpc, Bool.false_and] at hal
                    have hres : E = 130 := HE.out fun h => by
                      have h2 := h.2
                      rw [HFM.out, ← hal, Bool.and_false] at h2
                      cases h2
                    subst hres
                    clear hpc hal h95
                    go_wp2_with (go_at_call 75; refine HOF.out.mono ?_; rintro e w5 ⟨rfl, hx7⟩)
                    go_ret
                    exact ⟨rfl, hx4.trans ((HX.out.trans hx7).alloc _)⟩
              · have hnx : ∀ ty, (Instr.next (.pointer (some ⟨w4.heap.size, 0, none⟩)) true ty).run Tryz.prog wr = _ := fun ty => Lib.run_next_end_at wr w4.heap.size fm pos ty hit hp
                have hall := HAL.out
                rw [allFrom_end hp] at hall
                have hres : E = 0 := HE2.out ⟨hnm, by rw [HFM.out, ← hall, decide_eq_true hcnt]; rfl⟩
                subst hres
                clear hall
                go_wp2_with fail
                go_ret
                exact ⟨rfl, hx4.trans hx⟩
          · have hres : E = 130 := HE.out fun h => by
              have h2 := h.2
              rw [HFM.out, Bool.and_eq_true] at h2
              exact hcnt (of_decide_eq_true h2.1)
            subst hres
            go_enter Tryz.func37, Tryz.ntmps37
            go_wp2_with (first | (go_at_call 33; refine hchk.mono ?_; rintro e w1 ⟨rfl, hx1⟩; obtain ⟨e0, e1, b0, b1, l0⟩ := HBX.out _ hx1) | (go_at_call 72; refine (HC.out _).mono ?_; rintro e w2 ⟨rfl, hx2⟩; obtain ⟨e0, e1, b0, b1, l0⟩ := HBX.out _ (hx1.trans hx2)) | (go_at_call 73; refine (HVA.out _ ((hx4.trans hx1).trans hx2)).mono ?_; rintro e w3 ⟨rfl, hx3⟩; obtain ⟨e0, e1, b0, b1, l0⟩ := HBX.out _ ((hx1.trans hx2).trans hx3)) | (go_at_call 74; refine (HRC.out _).mono ?_; rintro e w4 ⟨rfl, hx5⟩; obtain ⟨e0, e1, b0, b1, l0⟩ := HBX.out _ (((hx1.trans hx2).trans hx3).trans hx5)))
            go_ret
            exact ⟨rfl, (((hx4.trans hx1).trans hx2).trans hx3).trans hx5⟩
    · have hres : E = 130 := HE.out fun h => by
        have h1 := h.1
        unfold nmB at h1
        rw [decide_eq_false hle] at h1
        simp at h1
      subst hres
      go_enter Tryz.func37, Tryz.ntmps37
      go_wp2_with (first | (go_at_call 33; refine hchk.mono ?_; rintro e w1 ⟨rfl, hx1⟩; obtain ⟨e0, e1, b0, b1, l0⟩ := HBX.out _ hx1))
      go_ret
      exact ⟨rfl, hx4.trans hx1⟩
  · rw [checkN_bad hok] at hchk
    rw [shapeE_bad hok]
    go_enter Tryz.func37, Tryz.ntmps37
    go_wp2_with (go_at_call 33; refine hchk.mono ?_; rintro e w1 ⟨rfl, hx1⟩)
    go_ret
    exact ⟨rfl, hx4.trans hx1⟩

end Go.Proofs.YtcnhlogkhnoacaaGreatDoor
