/- The law FeatureBack holds (its walk): texts and classes, there and back. -/
import Derived.Test.YtppbjeipfopehaaDoorFelj
namespace Go.Proofs.YtppbjeipfopehaaDoor
open Go.RowKit Go.Cg Go.Shelf Go.Maps

theorem parseR_cases (A : Alpha) (s : ByteArray) : ((parseR A s).2.2.2 = 0 ∧ A.Ok ∧ mayB A.feats.length (parseR A s).1 (parseR A s).2.1 = true ∧ (parseR A s).2.2.1 = 0) ∨
    ((parseR A s).2.2.2 ≠ 0 ∧ (parseR A s).1 = 0 ∧ (parseR A s).2.1 = 0 ∧ (parseR A s).2.2.1 ≤ s.size) := by
  unfold parseR
  split
  · rename_i hok
    split
    · rcases parseGo_may (A := A) s s.size 0 0 0 (may_zero _) with ⟨h1, h2, h3⟩ | ⟨h1, h2, h3, h4⟩
      · exact .inl ⟨h1, hok, h2, h3⟩
      · exact .inr ⟨by rw [h1]; decide, h2, h3, h4⟩
    · exact .inr ⟨by decide, rfl, rfl, Nat.zero_le _⟩
  · exact .inr ⟨by decide, rfl, rfl, Nat.zero_le _⟩
theorem classE_inv {A : Alpha} {p m : Nat} (h : classE A p m = 0) : A.Ok ∧ mayB A.feats.length p m = true := by
  unfold classE at h
  split at h
  · rename_i h0
    split at h
    · rename_i h1; exact ⟨h0, h1⟩
    · omega
  · omega
theorem textS_small {A : Alpha} (hok : A.Ok) (p m : Nat) : (textS A p m).size ≤ 140737488351232 := by
  unfold textS
  split
  · have := textTo_le hok p m A.feats.length (Nat.le_refl _)
    have := hok.1
    omega
  · decide
theorem may_lt {A : Alpha} (hok : A.Ok) {p m : Nat} (h : mayB A.feats.length p m = true) : p < 4294967296 ∧ m < 4294967296 := by
  have := pow24 hok.1
  unfold mayB at h
  simp only [decide_eq_true_eq] at h
  omega

set_option maxRecDepth 100000 in
set_option maxHeartbeats 4000000 in
theorem featureBack_any (fp lp : Option Addr) (fc lc : Nat) (A : Alpha) (p : Nat) (hp : p < 4294967296) (m : Nat) (hm : m < 4294967296) (s : ByteArray) (hs0 : s.size ≤ 140737488351232) (w : World) (hA : AlphaAt w fp lp A) :
    Calls Tryd.prog 8 #[.agg #[.slice fp A.feats.length fc, .slice lp A.lets.length lc], .int .u32 p, .int .u32 m, .string s] w fun e w' => e = .returned (.bool true) ∧ Ext w w' := by
  have hx0 : Ext w (w.alloc (.cells #[.slice fp A.feats.length fc, .slice lp A.lets.length lc] 26)) := (Ext.refl _).alloc _
  have hb0 : Ext (w.alloc (.cells #[.slice fp A.feats.length fc, .slice lp A.lets.length lc] 26)) (w.alloc (.cells #[.slice fp A.feats.length fc, .slice lp A.lets.length lc] 26)) := Ext.refl _
  have HT := Lib.hid (fun W (hW : Ext w W) p m hp hm => text_any fp lp fc lc A p m hp hm W (hA.mono hW))
  have HP := Lib.hid (fun W (hW : Ext w W) s hs => parse_any fp lp fc lc A s hs W (hA.mono hW))
  by_cases h5 : s.size ≤ 5000
  · go_enter Tryd.func8, Tryd.ntmps8
    go_wp2_with fail
    refine (alive_any _).mono ?_
    rintro e w1 ⟨rfl, hx1⟩
    have hb1 := hb0.trans hx1
    have hk1 := hx0.trans hx1
    have d0 := hb1.cell0 0
    have d1 := hb1.cell0 1
    simp only [List.getElem?_toArray, List.getElem?_cons_zero, List.getElem?_cons_succ] at d0 d1
    have hs := hb1.lt0
    go_wp2_with fail
    clear d0 d1 hs
    by_cases h0 : classE A p m = 0
    · obtain ⟨hok, hmay⟩ := classE_inv h0
      refine (HT.out _ hk1 p m hp hm).mono ?_
      rw [h0]
      rintro e w2 ⟨rfl, hx2⟩
      have hb2 := hb1.trans hx2
      have hk2 := hk1.trans hx2
      have d0 := hb2.cell0 0
      have d1 := hb2.cell0 1
      simp only [List.getElem?_toArray, List.getElem?_cons_zero, List.getElem?_cons_succ] at d0 d1
      have hs := hb2.lt0
      go_wp2_with fail
      clear d0 d1 hs
      refine (HP.out _ hk2 _ (textS_small hok _ _)).mono ?_
      rw [parse_of_text hok hmay]
      rintro e w3 ⟨rfl, hx3⟩
      have hb3 := hb2.trans hx3
      have hk3 := hk2.trans hx3
      have d0 := hb3.cell0 0
      have d1 := hb3.cell0 1
      simp only [List.getElem?_toArray, List.getElem?_cons_zero, List.getElem?_cons_succ] at d0 d1
      have hs := hb3.lt0
      go_wp2_with fail
      clear d0 d1 hs
      rcases parseR_cases A s with ⟨hE, hok2, hmay2, ha⟩ | ⟨hE, hP0, hM0, ha⟩
      · have hlt2 := may_lt hok2 hmay2
        refine (HP.out _ hk3 s hs0).mono ?_
        rw [hE, ha]
        rintro e w4 ⟨rfl, hx4⟩
        have hb4 := hb3.trans hx4
        have hk4 := hk3.trans hx4
        have d0 := hb4.cell0 0
        have d1 := hb4.cell0 1
        simp only [List.getElem?_toArray, List.getElem?_cons_zero, List.getElem?_cons_succ] at d0 d1
        have hs := hb4.lt0
        go_wp2_with fail
        clear d0 d1 hs
        refine (HT.out _ hk4 _ _ hlt2.1 hlt2.2).mono ?_
        rw [classE_zero hok2 hmay2]
        rintro e w5 ⟨rfl, hx5⟩
        have hb5 := hb4.trans hx5
        have hk5 := hk4.trans hx5
        have d0 := hb5.cell0 0
        have d1 := hb5.cell0 1
        simp only [List.getElem?_toArray, List.getElem?_cons_zero, List.getElem?_cons_succ] at d0 d1
        have hs := hb5.lt0
        go_wp2_with fail
        clear d0 d1 hs
        refine (HP.out _ hk5 _ (textS_small hok2 _ _)).mono ?_
        rw [parse_of_text hok2 hmay2]
        rintro e w6 ⟨rfl, hx6⟩
        have hb6 := hb5.trans hx6
        have hk6 := hk5.trans hx6
        go_wp2_with fail
        go_ret
        exact ⟨rfl, hk6⟩
      · have hne : ((parseR A s).2.2.2 != 0) = true := by rw [bne_iff_ne]; exact hE
        have ha2 : ((parseR A s).2.2.1 : Int) ≤ (s.size : Int) := by omega
        refine (HP.out _ hk3 s hs0).mono ?_
        rw [hP0, hM0]
        rintro e w4 ⟨rfl, hx4⟩
        have hb4 := hb3.trans hx4
        have hk4 := hk3.trans hx4
        go_wp2_with fail
        go_ret
        exact ⟨rfl, hk4⟩
    · have hne0 : (classE A p m == 0) = false := by rw [beq_eq_false_iff_ne]; exact h0
      have htx : textS A p m = ⟨#[]⟩ := by unfold textS; rw [if_neg h0]
      refine (HT.out _ hk1 p m hp hm).mono ?_
      rw [htx]
      rintro e w2 ⟨rfl, hx2⟩
      have hb2 := hb1.trans hx2
      have hk2 := hk1.trans hx2
      have d0 := hb2.cell0 0
      have d1 := hb2.cell0 1
      simp only [List.getElem?_toArray, List.getElem?_cons_zero, List.getElem?_cons_succ] at d0 d1
      have hs := hb2.lt0
      go_wp2_with fail
      clear d0 d1 hs
      rcases parseR_cases A s with ⟨hE, hok2, hmay2, ha⟩ | ⟨hE, hP0, hM0, ha⟩
      · have hlt2 := may_lt hok2 hmay2
        refine (HP.out _ hk2 s hs0).mono ?_
        rw [hE, ha]
        rintro e w3 ⟨rfl, hx3⟩
        have hb3 := hb2.trans hx3
        have hk3 := hk2.trans hx3
        have d0 := hb3.cell0 0
        have d1 := hb3.cell0 1
        simp only [List.getElem?_toArray, List.getElem?_cons_zero, List.getElem?_cons_succ] at d0 d1
        have hs := hb3.lt0
        go_wp2_with fail
        clear d0 d1 hs
        refine (HT.out _ hk3 _ _ hlt2.1 hlt2.2).mono ?_
        rw [classE_zero hok2 hmay2]
        rintro e w4 ⟨rfl, hx4⟩
        have hb4 := hb3.trans hx4
        have hk4 := hk3.trans hx4
        have d0 := hb4.cell0 0
        have d1 := hb4.cell0 1
        simp only [List.getElem?_toArray, List.getElem?_cons_zero, List.getElem?_cons_succ] at d0 d1
        have hs := hb4.lt0
        go_wp2_with fail
        clear d0 d1 hs
        refine (HP.out _ hk4 _ (textS_small hok2 _ _)).mono ?_
        rw [parse_of_text hok2 hmay2]
        rintro e w5 ⟨rfl, hx5⟩
        have hb5 := hb4.trans hx5
        have hk5 := hk4.trans hx5
        go_wp2_with fail
        go_ret
        exact ⟨rfl, hk5⟩
      · have hne : ((parseR A s).2.2.2 != 0) = true := by rw [bne_iff_ne]; exact hE
        have ha2 : ((parseR A s).2.2.1 : Int) ≤ (s.size : Int) := by omega
        refine (HP.out _ hk2 s hs0).mono ?_
        rw [hP0, hM0]
        rintro e w3 ⟨rfl, hx3⟩
        have hb3 := hb2.trans hx3
        have hk3 := hk2.trans hx3
        go_wp2_with fail
        go_ret
        exact ⟨rfl, hk3⟩
  · go_enter Tryd.func8, Tryd.ntmps8
    go_wp2_with fail
    refine (alive_any _).mono ?_
    rintro e w1 ⟨rfl, hx1⟩
    go_wp2_with fail
    go_ret
    exact ⟨rfl, hx0.trans hx1⟩
end Go.Proofs.YtppbjeipfopehaaDoor
