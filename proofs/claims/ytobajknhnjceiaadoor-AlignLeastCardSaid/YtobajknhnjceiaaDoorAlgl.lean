/- The law AlignLeast holds (its walk). -/
import Derived.Test.YtobajknhnjceiaaDoorAlgh
import Derived.Test.YtobajknhnjceiaaDoorAlgj
namespace Go.Cg
open Go.RowKit Go.Lib
theorem fst1_one (fr : Int → Int → Nat) : ∀ (x y : List Int), ∀ p ∈ fst1 fr x y, p.1 ∈ x ∨ p.2 ∈ y
  | [], [], p, h => by rw [fst1_nil] at h; cases h
  | x :: xs, [], p, h => by
    rw [fst1_left] at h
    rcases List.mem_cons.1 h with rfl | h
    · exact .inl (List.mem_cons_self ..)
    · exact (fst1_one fr xs [] p h).imp (List.mem_cons_of_mem _) id
  | [], y :: ys, p, h => by
    rw [fst1_right] at h
    rcases List.mem_cons.1 h with rfl | h
    · exact .inr (List.mem_cons_self ..)
    · exact (fst1_one fr [] ys p h).imp id (List.mem_cons_of_mem _)
  | x :: xs, y :: ys, p, h => by
    rw [fst1_both] at h
    split at h
    · rcases List.mem_cons.1 h with rfl | h
      · exact .inl (List.mem_cons_self ..)
      · exact (fst1_one fr xs ys p h).imp (List.mem_cons_of_mem _) (List.mem_cons_of_mem _)
    · split at h
      · rcases List.mem_cons.1 h with rfl | h
        · exact .inl (List.mem_cons_self ..)
        · exact (fst1_one fr xs (y :: ys) p h).imp (List.mem_cons_of_mem _) id
      · rcases List.mem_cons.1 h with rfl | h
        · exact .inr (List.mem_cons_self ..)
        · exact (fst1_one fr (x :: xs) ys p h).imp id (List.mem_cons_of_mem _)
termination_by x y => x.length + y.length
theorem two_made {A : Alpha} {x y : ByteArray} (h : twoE A x y = 0) : sumE A (twoP A x y) = 0 ∧ sumN A (twoP A x y) = twoC A x y ∧ bothX A (twoP A x y) = x ∧ bothY A (twoP A x y) = y := by
  obtain ⟨h1, h2⟩ := twoE_zero h
  obtain ⟨hA, rx, ix, lx⟩ := ltr_ok h1
  obtain ⟨_, ry, iy, ly⟩ := ltr_ok h2
  have hC : twoC A x y = al (farC A) (ltr A x) (ltr A y) := if_pos h
  have hP : twoP A x y = fst1 (farC A) (ltr A x) (ltr A y) := if_pos h
  obtain ⟨f1, f2, f3, f4⟩ := fst1_ok (farC_same A) _ _ (InA_ne hA ix) (InA_ne hA iy)
  have m1 := fst1_mem (farC A) (ltr A x) (ltr A y)
  have m2 := fst1_one (farC A) (ltr A x) (ltr A y)
  rw [← hP] at f1 f2 f3 f4 m1 m2
  have hE : sumE A (twoP A x y) = 0 := by
    unfold sumE
    rw [if_pos hA, if_neg (by omega)]
    refine errP_mem fun p hp => ?_
    have a1 : p.1 ≠ 0 → 0 ≤ findLetter A p.1 := fun k => (m1 p hp).1.elim (fun e => absurd e k) (fun e => ix _ e)
    have a2 : p.2 ≠ 0 → 0 ≤ findLetter A p.2 := fun k => (m1 p hp).2.elim (fun e => absurd e k) (fun e => iy _ e)
    unfold pairE
    rw [if_neg (fun k => k.2 (a1 k.1)), if_neg (fun k => k.2 (a2 k.1)), if_neg]
    rintro ⟨k1, k2⟩
    rcases m2 p hp with e | e
    · exact InA_ne hA ix _ e k1
    · exact InA_ne hA iy _ e k2
  refine ⟨hE, ?_, ?_, ?_⟩
  · unfold sumN; rw [if_pos hE, sumTo_all, f3, hC]
  · unfold bothX; rw [if_pos hE, f1, rx]
  · unfold bothY; rw [if_pos hE, f2, ry]
theorem sumE_zero {A : Alpha} {l : List (Int × Int)} (h : sumE A l = 0) : A.Ok ∧ l.length ≤ 256 ∧ ∀ p ∈ l, pairE A p.1 p.2 = 0 := by
  unfold sumE at h
  split at h
  · rename_i hA
    split at h
    · cases h
    · exact ⟨hA, by omega, errP_all h⟩
  · cases h
theorem pairE_lets {A : Alpha} {x y : Int} (h : pairE A x y = 0) : (x ≠ 0 → 0 ≤ findLetter A x) ∧ (y ≠ 0 → 0 ≤ findLetter A y) := by
  unfold pairE at h
  split at h
  · cases h
  · rename_i h1
    split at h
    · cases h
    · rename_i h2
      exact ⟨fun k => Decidable.byContradiction fun q => h1 ⟨k, q⟩, fun k => Decidable.byContradiction fun q => h2 ⟨k, q⟩⟩
theorem lefts_in {A : Alpha} {l : List (Int × Int)} (h : ∀ p ∈ l, pairE A p.1 p.2 = 0) : InA A (lefts l) := by
  intro r hr
  obtain ⟨hm, h0⟩ := List.mem_filter.1 hr
  obtain ⟨p, hp, rfl⟩ := List.mem_map.1 hm
  exact (pairE_lets (h p hp)).1 (by simpa using h0)
theorem rights_in {A : Alpha} {l : List (Int × Int)} (h : ∀ p ∈ l, pairE A p.1 p.2 = 0) : InA A (rights l) := by
  intro r hr
  obtain ⟨hm, h0⟩ := List.mem_filter.1 hr
  obtain ⟨p, hp, rfl⟩ := List.mem_map.1 hm
  exact (pairE_lets (h p hp)).2 (by simpa using h0)
theorem least_of {A : Alpha} {x y : ByteArray} {l : List (Int × Int)} (h : twoE A x y = 0) (hs : sumE A l = 0) (hx : bothX A l = x) (hy : bothY A l = y) : twoC A x y ≤ sumN A l := by
  obtain ⟨h1, h2⟩ := twoE_zero h
  obtain ⟨hA, rx, ix, lx⟩ := ltr_ok h1
  obtain ⟨_, ry, iy, ly⟩ := ltr_ok h2
  obtain ⟨_, _, hp⟩ := sumE_zero hs
  have hC : twoC A x y = al (farC A) (ltr A x) (ltr A y) := if_pos h
  have hX : bothX A l = runesBytes (lefts l) := if_pos hs
  have hY : bothY A l = runesBytes (rights l) := if_pos hs
  have hN : sumN A l = sumTo A l l.length := if_pos hs
  have e1 : ltr A x = lefts l := (rb_inj_in hA ix (lefts_in hp)).1 (by rw [rx, ← hX, hx])
  have e2 : ltr A y = rights l := (rb_inj_in hA iy (rights_in hp)).1 (by rw [ry, ← hY, hy])
  rw [hC, hN, sumTo_all, e1, e2]
  exact al_least (farC_same A) l
end Go.Cg
namespace Go.Proofs.YtobajknhnjceiaaDoor
open Go.RowKit Go.Cg Go.Shelf Go.Maps

theorem many_seven {A : Alpha} {x y : ByteArray} (h : twoE A x y = 0) : manyE A x y 7 = 0 ∧ 1 ≤ manyN A x y 7 ∧ manyN A x y 7 ≤ 7 := by
  have hE : manyE A x y 7 = 0 := by unfold manyE; rw [if_neg (fun k => k h), if_neg (by omega)]
  have := mn_pos (farC A) (ltr A x) (ltr A y)
  refine ⟨hE, ?_, ?_⟩
  · unfold manyN; rw [if_pos hE]; omega
  · unfold manyN; rw [if_pos hE]; omega

set_option maxRecDepth 100000 in
set_option maxHeartbeats 4000000 in
theorem alignLeast_any (fp lp : Option Addr) (fc lc : Nat) (A : Alpha) (x : ByteArray) (hx : x.size ≤ 140737488351232) (y : ByteArray) (hy : y.size ≤ 140737488351232) (pp : Option Addr) (pcap : Nat) (l : List (Int × Int)) (w : World) (hA : AlphaAt w fp lp A) (hP : PairsAt w pp l) (hTb : Tabs w) :
    Calls Tryd.prog 7 #[.agg #[.slice fp A.feats.length fc, .slice lp A.lets.length lc], .string x, .string y, .slice pp l.length pcap] w fun e w' => e = .returned (.bool true) ∧ Ext w w' := by
  have hx3 : Ext w (w.alloc (.cells #[.slice fp A.feats.length fc, .slice lp A.lets.length lc] 25)) := (Ext.refl _).alloc _
  have HBX := Lib.hid (fun W (hW : Ext (w.alloc (.cells #[.slice fp A.feats.length fc, .slice lp A.lets.length lc] 25)) W) => (⟨hW.cell0 0, hW.cell0 1, hW.lt0⟩ : W.cell? ⟨w.heap.size, 0, none⟩ = some (.slice fp A.feats.length fc) ∧ W.cell? ⟨w.heap.size, 1, none⟩ = some (.slice lp A.lets.length lc) ∧ w.heap.size < W.heap.size))
  by_cases h0 : twoE A x y = 0
  · have hwo := fun W (hW : Ext w W) => words_any fp lp fc lc A x y hx hy W (hA.mono hW) (hTb.ext hW)
    have hma := fun W (hW : Ext w W) => many_any fp lp fc lc A x y 7 hx hy W (hA.mono hW) (hTb.ext hW)
    obtain ⟨q1, q2, q3, q4⟩ := two_made h0
    obtain ⟨r1, r2, r3⟩ := many_seven h0
    have hb1 := fun p c W (hW : Ext w W) (h : PairsAt W p (twoP A x y)) => both_any fp lp p fc lc c A (twoP A x y) W (hA.mono hW) h
    have hs1 := fun p c W (hW : Ext w W) (h : PairsAt W p (twoP A x y)) => sum_any fp lp p fc lc c A (twoP A x y) W (hA.mono hW) h
    have hb2 := fun W (hW : Ext w W) => both_any fp lp pp fc lc pcap A l W (hA.mono hW) (hP.mono hW)
    have hs2 := fun W (hW : Ext w W) => sum_any fp lp pp fc lc pcap A l W (hA.mono hW) (hP.mono hW)
    have hle := fun h1 h2 h3 => least_of (A := A) (x := x) (y := y) (l := l) h0 h1 h2 h3
    rw [q1, q3, q4] at hb1
    rw [q1, q2] at hs1
    rw [h0] at hwo
    rw [r1] at hma
    obtain ⟨MN, hMN⟩ : ∃ v, manyN A x y 7 = v := ⟨_, rfl⟩
    obtain ⟨C, hC⟩ : ∃ v, twoC A x y = v := ⟨_, rfl⟩
    obtain ⟨P, hPP⟩ : ∃ v, twoP A x y = v := ⟨_, rfl⟩
    obtain ⟨F, hF⟩ : ∃ v, sumE A l = v := ⟨_, rfl⟩
    obtain ⟨S, hS⟩ : ∃ v, sumN A l = v := ⟨_, rfl⟩
    obtain ⟨U, hU⟩ : ∃ v, bothX A l = v := ⟨_, rfl⟩
    obtain ⟨V, hV⟩ : ∃ v, bothY A l = v := ⟨_, rfl⟩
    rw [hMN] at hma r2 r3
    rw [hC, hPP] at hwo
    rw [hPP] at hb1 hs1
    rw [hC] at hs1 hle
    rw [hF, hU, hV] at hb2 hle
    rw [hF, hS] at hs2
    rw [hS] at hle
    have HWO := Lib.hid hwo
    have HMA := Lib.hid hma
    have HB1 := Lib.hid hb1
    have HS1 := Lib.hid hs1
    have HB2 := Lib.hid hb2
    have HS2 := Lib.hid hs2
    have HLE := Lib.hid hle
    have g1 : decide (MN < 1) = false := decide_eq_false (by omega)
    have g2 : decide (MN > 7) = false := decide_eq_false (by omega)
    have g3 : decide (7 < MN) = false := decide_eq_false (by omega)
    clear hwo hma hb1 hs1 hb2 hs2 hle hMN hC hPP hF hS hU hV h0 q1 q2 q3 q4 r1 r2 r3
    go_enter Tryd.func7, Tryd.ntmps7
    go_wp2_with fail
    refine (awake21_any _).mono ?_
    rintro _ w1 ⟨rfl, hx1⟩
    obtain ⟨d0, d1, l0⟩ := HBX.out _ hx1
    have hb : Ext (w.alloc (.cells #[.slice fp A.feats.length fc, .slice lp A.lets.length lc] 25)) w1 := hx1
    clear hx1
    go_wp2_with fail
    refine (HWO.out _ (hx3.trans hb)).mono ?_
    rintro _ w2 ⟨tp, tcap, rfl, hop, hx2⟩
    have hpa := hop.at_
    replace hb := hb.trans hx2
    clear hop hx2
    obtain ⟨d0, d1, l0⟩ := HBX.out _ hb
    go_wp2_with fail
    refine (HB1.out tp tcap _ (hx3.trans hb) hpa).mono ?_
    rintro _ w4 ⟨rfl, hx4⟩
    replace hb := hb.trans hx4
    have hpa4 := hpa.mono hx4
    clear hx4
    obtain ⟨d0, d1, l0⟩ := HBX.out _ hb
    go_wp2_with fail
    refine (HS1.out tp tcap _ (hx3.trans hb) hpa4).mono ?_
    rintro _ w5 ⟨rfl, hx5⟩
    replace hb := hb.trans hx5
    clear hx5
    obtain ⟨d0, d1, l0⟩ := HBX.out _ hb
    go_wp2_with fail
    refine (HMA.out _ (hx3.trans hb)).mono ?_
    rintro _ w6 ⟨rfl, hx6⟩
    replace hb := hb.trans hx6
    clear hx6
    obtain ⟨d0, d1, l0⟩ := HBX.out _ hb
    go_wp2_with fail
    refine (HB2.out _ (hx3.trans hb)).mono ?_
    rintro _ w7 ⟨rfl, hx7⟩
    replace hb := hb.trans hx7
    clear hx7
    obtain ⟨d0, d1, l0⟩ := HBX.out _ hb
    go_wp2_with fail
    refine (HS2.out _ (hx3.trans hb)).mono ?_
    rintro _ w8 ⟨rfl, hx8⟩
    replace hb := hb.trans hx8
    clear hx8 d0 d1 l0
    have hend : Ext w w8 := hx3.trans hb
    by_cases hF : F = 0
    · subst hF
      cases gU : (U.toList == x.toList)
      · go_wp2_with fail
        go_ret
        exact ⟨rfl, hend⟩
      · cases gV : (V.toList == y.toList)
        · go_wp2_with fail
          go_ret
          exact ⟨rfl, hend⟩
        · have hc := HLE.out rfl (bytes_eq_iff.1 gU) (bytes_eq_iff.1 gV)
          go_wp2_with fail
          go_ret
          exact ⟨by simp, hend⟩
    · have g5 : (F != 0) = true := by rw [bne_iff_ne]; exact hF
      clear hF
      go_wp2_with fail
      go_ret
      exact ⟨rfl, hend⟩
  · have hwo := fun W (hW : Ext w W) => words_short fp lp fc lc A x y hx hy W (hA.mono hW) (hTb.ext hW)
    have hwo := fun W (hW : Ext w W) => words_any fp lp fc lc A x y hx hy W (hA.mono hW) (hTb.ext hW)
    have e1 : twoC A x y = 0 := if_neg h0
    have e2 : twoP A x y = [] := if_neg h0
    rw [e1, e2] at hwo
    have HWO := Lib.hid hwo
    have g5 : (twoE A x y != 0) = true := by rw [bne_iff_ne]; exact h0
    clear hwo e1 e2 h0
    go_enter Tryd.func7, Tryd.ntmps7
    go_wp2_with fail
    refine (awake21_any _).mono ?_
    rintro _ w1 ⟨rfl, hx1⟩
    obtain ⟨d0, d1, l0⟩ := HBX.out _ hx1
    go_wp2_with fail
    refine (HWO.out _ (hx3.trans hx1)).mono ?_
    rintro _ w2 ⟨tp, tcap, rfl, hop, hx2⟩
    go_wp2_with fail
    go_ret
    exact ⟨rfl, (hx3.trans hx1).trans hx2⟩

end Go.Proofs.YtobajknhnjceiaaDoor
