/- The law AlignThree holds (its walk). -/
import Derived.Test.YtobajknhnjceiaaDoorAlgf
import Derived.Test.YtobajknhnjceiaaDoorAlgv
namespace Go.Proofs.YtobajknhnjceiaaDoor
open Go.RowKit Go.Cg Go.Shelf Go.Maps

/-- Words' contract without its pairs -/
theorem words_short (fp lp : Option Addr) (fc lc : Nat) (A : Alpha) (x y : ByteArray) (hx : x.size ≤ 140737488351232) (hy : y.size ≤ 140737488351232) (w : World) (hA : AlphaAt w fp lp A) (hTb : Tabs w) :
    Calls Tryd.prog 20 #[.agg #[.slice fp A.feats.length fc, .slice lp A.lets.length lc], .string x, .string y] w fun e w' => ∃ p n c, e = .returned (.tuple #[.int .i64 (twoC A x y : Nat), .slice p n c, .int .i64 (twoE A x y)]) ∧ Ext w w' :=
  (words_any fp lp fc lc A x y hx hy w hA hTb).mono fun _ _ ⟨p, c, he, _, hx⟩ => ⟨p, _, c, he, hx⟩

set_option maxRecDepth 100000 in
set_option maxHeartbeats 4000000 in
theorem alignThree_any (fp lp : Option Addr) (fc lc : Nat) (A : Alpha) (x : ByteArray) (hx : x.size ≤ 140737488351232) (y : ByteArray) (hy : y.size ≤ 140737488351232) (z : ByteArray) (hz : z.size ≤ 140737488351232) (w : World) (hA : AlphaAt w fp lp A) (hTb : Tabs w) :
    Calls Tryd.prog 4 #[.agg #[.slice fp A.feats.length fc, .slice lp A.lets.length lc], .string x, .string y, .string z] w fun e w' => e = .returned (.bool true) ∧ Ext w w' := by
  have hx3 : Ext w (w.alloc (.cells #[.slice fp A.feats.length fc, .slice lp A.lets.length lc] 25)) := (Ext.refl _).alloc _
  have h1 := fun W (hW : Ext w W) => words_short fp lp fc lc A x y hx hy W (hA.mono hW) (hTb.ext hW)
  have h2 := fun W (hW : Ext w W) => words_short fp lp fc lc A y z hy hz W (hA.mono hW) (hTb.ext hW)
  have h3 := fun W (hW : Ext w W) => words_short fp lp fc lc A x z hx hz W (hA.mono hW) (hTb.ext hW)
  have h4 := fun W (hW : Ext w W) => words_short fp lp fc lc A y x hy hx W (hA.mono hW) (hTb.ext hW)
  rw [twoC_swap A y x] at h4
  have hsw : twoE A x y = 0 ↔ twoE A y x = 0 := twoE_swap
  have hze : twoE A x y = 0 → (twoC A x y = 0 ↔ x = y) := twoC_zero
  have htr : twoE A x y = 0 → twoE A y z = 0 → twoE A x z = 0 ∧ twoC A x z ≤ twoC A x y + twoC A y z := twoC_tri
  have l1 : twoC A x y ≤ 640 := twoC_le
  have l2 : twoC A y z ≤ 640 := twoC_le
  obtain ⟨p, hp⟩ : ∃ v, twoC A x y = v := ⟨_, rfl⟩
  obtain ⟨q, hq⟩ : ∃ v, twoC A y z = v := ⟨_, rfl⟩
  obtain ⟨r, hr⟩ : ∃ v, twoC A x z = v := ⟨_, rfl⟩
  obtain ⟨e, he⟩ : ∃ v, twoE A x y = v := ⟨_, rfl⟩
  obtain ⟨f, hf⟩ : ∃ v, twoE A y z = v := ⟨_, rfl⟩
  obtain ⟨g, hg⟩ : ∃ v, twoE A x z = v := ⟨_, rfl⟩
  obtain ⟨h, hh⟩ : ∃ v, twoE A y x = v := ⟨_, rfl⟩
  rw [hp] at h1 h4 hze htr l1
  rw [hq] at h2 htr l2
  rw [hr] at h3 htr
  rw [he] at h1 hsw hze htr
  rw [hf] at h2 htr
  rw [hg] at h3 htr
  rw [hh] at h4 hsw
  clear hp hq hr he hf hg hh
  have H1 := Lib.hid h1
  have H2 := Lib.hid h2
  have H3 := Lib.hid h3
  have H4 := Lib.hid h4
  clear h1 h2 h3 h4
  have HBX := Lib.hid (fun W (hW : Ext (w.alloc (.cells #[.slice fp A.feats.length fc, .slice lp A.lets.length lc] 25)) W) => (⟨hW.cell0 0, hW.cell0 1, hW.lt0⟩ : W.cell? ⟨w.heap.size, 0, none⟩ = some (.slice fp A.feats.length fc) ∧ W.cell? ⟨w.heap.size, 1, none⟩ = some (.slice lp A.lets.length lc) ∧ w.heap.size < W.heap.size))
  have HSW := Lib.hid hsw
  have HZE := Lib.hid hze
  have HTR := Lib.hid htr
  clear hsw hze htr
  go_enter Tryd.func4, Tryd.ntmps4
  go_wp2_with fail
  refine (awake21_any _).mono ?_
  rintro _ w1 ⟨rfl, hx1⟩
  obtain ⟨d0, d1, l0⟩ := HBX.out _ hx1
  go_wp2_with fail
  refine (H1.out _ (hx3.trans hx1)).mono ?_
  rintro _ w2 ⟨p1, n1, c1, rfl, hx2⟩
  obtain ⟨d0, d1, l0⟩ := HBX.out _ (hx1.trans hx2)
  go_wp2_with fail
  refine (H2.out _ ((hx3.trans hx1).trans hx2)).mono ?_
  rintro _ w4 ⟨p2, n2, c2, rfl, hx4⟩
  obtain ⟨d0, d1, l0⟩ := HBX.out _ ((hx1.trans hx2).trans hx4)
  go_wp2_with fail
  refine (H3.out _ (((hx3.trans hx1).trans hx2).trans hx4)).mono ?_
  rintro _ w5 ⟨p3, n3, c3, rfl, hx5⟩
  obtain ⟨d0, d1, l0⟩ := HBX.out _ (((hx1.trans hx2).trans hx4).trans hx5)
  go_wp2_with fail
  refine (H4.out _ ((((hx3.trans hx1).trans hx2).trans hx4).trans hx5)).mono ?_
  rintro _ w6 ⟨p4, n4, c4, rfl, hx6⟩
  have hend : Ext w w6 := ((((hx3.trans hx1).trans hx2).trans hx4).trans hx5).trans hx6
  clear d0 d1 l0 hx1 hx2 hx4 hx5 hx6
  by_cases he : e = 0
  · subst he
    have hh := HSW.out.1 rfl
    subst hh
    have hzz := HZE.out rfl
    have gB : ((p : Int) == 0) = (x.toList == y.toList) := by
      rw [Bool.eq_iff_iff, bytes_eq_iff, beq_iff_eq, ← hzz]; omega
    by_cases hf : f = 0
    · subst hf
      obtain ⟨hg, hle⟩ := HTR.out rfl rfl
      subst hg
      have g5 : decide ((r : Int) ≤ (p : Int) + (q : Int)) = true := decide_eq_true (by omega)
      clear hzz
      cases hB : (x.toList == y.toList)
      · rw [hB] at gB
        go_wp2_with fail
        go_ret
        exact ⟨rfl, hend⟩
      · rw [hB] at gB
        go_wp2_with fail
        go_ret
        exact ⟨rfl, hend⟩
    · have g5 : (f != 0) = true := by rw [bne_iff_ne]; exact hf
      clear hzz hf
      cases hB : (x.toList == y.toList)
      · rw [hB] at gB
        go_wp2_with fail
        go_ret
        exact ⟨rfl, hend⟩
      · rw [hB] at gB
        go_wp2_with fail
        go_ret
        exact ⟨rfl, hend⟩
  · have g1 : (e == 0) = false := by rw [beq_eq_false_iff_ne]; exact he
    have g2 : (h == 0) = false := by rw [beq_eq_false_iff_ne]; exact fun k => he (HSW.out.2 k)
    have g3 : (e != 0) = true := by rw [bne_iff_ne]; exact he
    clear he
    go_wp2_with fail
    go_ret
    exact ⟨rfl, hend⟩

end Go.Proofs.YtobajknhnjceiaaDoor
