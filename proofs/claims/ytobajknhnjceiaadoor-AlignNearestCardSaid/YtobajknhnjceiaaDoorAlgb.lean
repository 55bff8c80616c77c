/- Contracts: cognateref21.Of, pair, Cost; cognatelaw21.awake (its alphabet). -/
import Derived.Test.YtobajknhnjceiaaDoorAlga
namespace Go.Proofs.YtobajknhnjceiaaDoor
open Go.RowKit Go.Cg Go.Shelf Go.Maps

set_option maxHeartbeats 800000 in
theorem Of21_any (fp lp : Option Addr) (fc lc : Nat) (A : Alpha) (x y : Int) (hx : -2147483648 ≤ x ∧ x ≤ 2147483647) (hy : -2147483648 ≤ y ∧ y ≤ 2147483647) (w : World) (hA : AlphaAt w fp lp A) :
    Calls Tryd.prog 54 #[.agg #[.slice fp A.feats.length fc, .slice lp A.lets.length lc], .int .i32 x, .int .i32 y] w fun e w' => e = .returned (.int .i64 (farC A x y : Nat)) ∧ Ext w w' := by
  have hx3 : Ext w (w.alloc (.cells #[.slice fp A.feats.length fc, .slice lp A.lets.length lc] 25)) := (Ext.refl _).alloc _
  have hle := farC_le A x y
  by_cases h : x = y
  · subst h
    rw [farC_same]
    go_enter Tryd.func54, Tryd.ntmps54
    go_wp2_with fail
    go_ret
    exact ⟨rfl, hx3⟩
  · have g1 : (x == y) = false := by rw [beq_eq_false_iff_ne]; exact h
    by_cases h1 : x = 0
    · rw [farC_gap h (.inl h1)]
      subst h1
      go_enter Tryd.func54, Tryd.ntmps54
      go_wp2_with fail
      go_ret
      exact ⟨rfl, hx3⟩
    · have g2 : (x == 0) = false := by rw [beq_eq_false_iff_ne]; exact h1
      by_cases h2 : y = 0
      · rw [farC_gap h (.inr h2)]
        subst h2
        go_enter Tryd.func54, Tryd.ntmps54
        go_wp2_with fail
        go_ret
        exact ⟨rfl, hx3⟩
      · have g3 : (y == 0) = false := by rw [beq_eq_false_iff_ne]; exact h2
        have e := farC_two (A := A) h h1 h2
        have HE := Lib.hid e
        have hf := Far02_any fp lp fc lc A x y hx hy _ (hA.mono hx3)
        have hfn : farN A x y ≤ 32 := by omega
        clear e h h1 h2 hle
        go_enter Tryd.func54, Tryd.ntmps54
        go_wp2_with (go_at_call 94; refine hf.mono ?_; rintro e w1 ⟨rfl, hx1⟩)
        go_ret
        exact ⟨by rw [HE.out]; go_num, hx3.trans hx1⟩

set_option maxHeartbeats 1600000 in
theorem pair21_any (fp lp : Option Addr) (fc lc : Nat) (A : Alpha) (x y : Int) (w : World) (hA : AlphaAt w fp lp A) :
    Calls Tryd.prog 53 #[.agg #[.slice fp A.feats.length fc, .slice lp A.lets.length lc], .int .i32 x, .int .i32 y] w fun e w' => e = .returned (.int .i64 (pairE A x y)) ∧ Ext w w' := by
  have hx3 : Ext w (w.alloc (.cells #[.slice fp A.feats.length fc, .slice lp A.lets.length lc] 25)) := (Ext.refl _).alloc _
  have hnu := fun r W hW => Number_any fp lp fc lc A r W (hA.mono hW)
  have hbx : ∀ W, Ext (w.alloc (.cells #[.slice fp A.feats.length fc, .slice lp A.lets.length lc] 25)) W → W.cell? ⟨w.heap.size, 0, none⟩ = some (.slice fp A.feats.length fc) ∧ W.cell? ⟨w.heap.size, 1, none⟩ = some (.slice lp A.lets.length lc) ∧ w.heap.size < W.heap.size := fun W hW => ⟨hW.cell0 0, hW.cell0 1, hW.lt0⟩
  have hpe : pairE A x y = if x ≠ 0 ∧ ¬ 0 ≤ findLetter A x then 5 else if y ≠ 0 ∧ ¬ 0 ≤ findLetter A y then 5 else if x = 0 ∧ y = 0 then 2 else 0 := rfl
  have hnx := hnu x
  have hny := hnu y
  obtain ⟨NX, hNX⟩ : ∃ v, findLetter A x = v := ⟨_, rfl⟩
  obtain ⟨NY, hNY⟩ : ∃ v, findLetter A y = v := ⟨_, rfl⟩
  rw [hNX, hNY] at hpe
  rw [hNX] at hnx
  rw [hNY] at hny
  obtain ⟨PE, hPE⟩ : ∃ v, pairE A x y = v := ⟨_, rfl⟩
  rw [hPE] at hpe ⊢
  have HBX := Lib.hid hbx
  have HNX := Lib.hid hnx
  have HNY := Lib.hid hny
  clear hbx hnu hnx hny hNX hNY hPE
  by_cases hx0 : x = 0
  · rw [if_neg (fun k => k.1 hx0)] at hpe
    subst hx0
    by_cases hy0 : y = 0
    · rw [if_neg (fun k => k.1 hy0), if_pos ⟨rfl, hy0⟩] at hpe
      subst hy0
      subst hpe
      go_enter Tryd.func53, Tryd.ntmps53
      go_wp2_with fail
      go_ret
      exact ⟨rfl, hx3⟩
    · have g2 : (y != 0) = true := by rw [bne_iff_ne]; exact hy0
      by_cases hny : 0 ≤ NY
      · rw [if_neg (fun k => k.2 hny), if_neg (fun k => hy0 k.2)] at hpe
        subst hpe
        have g3 : decide (NY < 0) = false := decide_eq_false (by omega)
        have g4 : (y == 0) = false := by rw [beq_eq_false_iff_ne]; exact hy0
        clear hy0 hny
        go_enter Tryd.func53, Tryd.ntmps53
        go_wp2_with fail
        refine (HNY.out _ hx3).mono ?_
        rintro e w1 ⟨rfl, hx1⟩
        go_wp2_with fail
        go_ret
        exact ⟨rfl, hx3.trans hx1⟩
      · rw [if_pos ⟨hy0, hny⟩] at hpe
        subst hpe
        have g3 : decide (NY < 0) = true := decide_eq_true (by omega)
        clear hy0 hny
        go_enter Tryd.func53, Tryd.ntmps53
        go_wp2_with fail
        refine (HNY.out _ hx3).mono ?_
        rintro e w1 ⟨rfl, hx1⟩
        go_wp2_with fail
        go_ret
        exact ⟨rfl, hx3.trans hx1⟩
  · have g1 : (x != 0) = true := by rw [bne_iff_ne]; exact hx0
    have g5 : (x == 0) = false := by rw [beq_eq_false_iff_ne]; exact hx0
    by_cases hnx : 0 ≤ NX
    · rw [if_neg (fun k => k.2 hnx)] at hpe
      have g6 : decide (NX < 0) = false := decide_eq_false (by omega)
      by_cases hy0 : y = 0
      · rw [if_neg (fun k => k.1 hy0), if_neg (fun k => hx0 k.1)] at hpe
        subst hy0
        subst hpe
        clear hx0 hnx
        go_enter Tryd.func53, Tryd.ntmps53
        go_wp2_with fail
        refine (HNX.out _ hx3).mono ?_
        rintro e w1 ⟨rfl, hx1⟩
        go_wp2_with fail
        go_ret
        exact ⟨rfl, hx3.trans hx1⟩
      · have g2 : (y != 0) = true := by rw [bne_iff_ne]; exact hy0
        by_cases hny : 0 ≤ NY
        · rw [if_neg (fun k => k.2 hny), if_neg (fun k => hy0 k.2)] at hpe
          subst hpe
          have g3 : decide (NY < 0) = false := decide_eq_false (by omega)
          have g4 : (y == 0) = false := by rw [beq_eq_false_iff_ne]; exact hy0
          clear hy0 hny hx0 hnx
          go_enter Tryd.func53, Tryd.ntmps53
          go_wp2_with fail
          refine (HNX.out _ hx3).mono ?_
          rintro e w1 ⟨rfl, hx1⟩
          obtain ⟨d0, d1, l0⟩ := HBX.out _ hx1
          go_wp2_with fail
          refine (HNY.out _ (hx3.trans hx1)).mono ?_
          rintro e w2 ⟨rfl, hx2⟩
          go_wp2_with fail
          go_ret
          exact ⟨rfl, (hx3.trans hx1).trans hx2⟩
        · rw [if_pos ⟨hy0, hny⟩] at hpe
          subst hpe
          have g3 : decide (NY < 0) = true := decide_eq_true (by omega)
          clear hy0 hny hx0 hnx
          go_enter Tryd.func53, Tryd.ntmps53
          go_wp2_with fail
          refine (HNX.out _ hx3).mono ?_
          rintro e w1 ⟨rfl, hx1⟩
          obtain ⟨d0, d1, l0⟩ := HBX.out _ hx1
          go_wp2_with fail
          refine (HNY.out _ (hx3.trans hx1)).mono ?_
          rintro e w2 ⟨rfl, hx2⟩
          go_wp2_with fail
          go_ret
          exact ⟨rfl, (hx3.trans hx1).trans hx2⟩
    · rw [if_pos ⟨hx0, hnx⟩] at hpe
      subst hpe
      have g6 : decide (NX < 0) = true := decide_eq_true (by omega)
      clear hx0 hnx
      go_enter Tryd.func53, Tryd.ntmps53
      go_wp2_with fail
      refine (HNX.out _ hx3).mono ?_
      rintro e w1 ⟨rfl, hx1⟩
      go_wp2_with fail
      go_ret
      exact ⟨rfl, hx3.trans hx1⟩

set_option maxHeartbeats 1600000 in
theorem Cost21_any (fp lp : Option Addr) (fc lc : Nat) (A : Alpha) (x y : Int) (hx : -2147483648 ≤ x ∧ x ≤ 2147483647) (hy : -2147483648 ≤ y ∧ y ≤ 2147483647) (w : World) (hA : AlphaAt w fp lp A) :
    Calls Tryd.prog 17 #[.agg #[.slice fp A.feats.length fc, .slice lp A.lets.length lc], .int .i32 x, .int .i32 y] w fun e w' => e = .returned (.tuple #[.int .i64 (costN A x y : Nat), .int .i64 (costE A x y)]) ∧ Ext w w' := by
  have hx3 : Ext w (w.alloc (.cells #[.slice fp A.feats.length fc, .slice lp A.lets.length lc] 25)) := (Ext.refl _).alloc _
  have hck := fun W hW => Check_any fp lp fc lc A W (hA.mono hW)
  have hpa := fun W hW => pair21_any fp lp fc lc A x y W (hA.mono hW)
  have hof := fun W hW => Of21_any fp lp fc lc A x y hx hy W (hA.mono hW)
  have hbx : ∀ W, Ext (w.alloc (.cells #[.slice fp A.feats.length fc, .slice lp A.lets.length lc] 25)) W → W.cell? ⟨w.heap.size, 0, none⟩ = some (.slice fp A.feats.length fc) ∧ W.cell? ⟨w.heap.size, 1, none⟩ = some (.slice lp A.lets.length lc) ∧ w.heap.size < W.heap.size := fun W hW => ⟨hW.cell0 0, hW.cell0 1, hW.lt0⟩
  have HBX := Lib.hid hbx
  have HOF := Lib.hid hof
  clear hbx hof
  by_cases hok : A.Ok
  · rw [checkN_ok hok] at hck
    have hpe : costE A x y = pairE A x y := if_pos hok
    have hn : costN A x y = if costE A x y = 0 then farC A x y else 0 := rfl
    obtain ⟨CN, hCN⟩ : ∃ v, costN A x y = v := ⟨_, rfl⟩
    rw [hCN, hpe] at hn
    rw [hCN, hpe]
    obtain ⟨PE, hPE⟩ : ∃ v, pairE A x y = v := ⟨_, rfl⟩
    rw [hPE] at hn hpa
    rw [hPE]
    have HCK := Lib.hid hck
    have HPA := Lib.hid hpa
    clear hck hpa hpe hCN hPE
    by_cases h0 : PE = 0
    · subst h0
      rw [if_pos rfl] at hn
      subst hn
      go_enter Tryd.func17, Tryd.ntmps17
      go_wp2_with (first | (go_at_call 52; refine (HCK.out _ hx3).mono ?_; rintro e w1 ⟨rfl, hx1⟩; obtain ⟨d0, d1, l0⟩ := HBX.out _ hx1) | (go_at_call 53; refine (HPA.out _ (hx3.trans hx1)).mono ?_; rintro e w2 ⟨rfl, hx2⟩; obtain ⟨d0, d1, l0⟩ := HBX.out _ (hx1.trans hx2)) | (go_at_call 54; refine (HOF.out _ ((hx3.trans hx1).trans hx2)).mono ?_; rintro e w3 ⟨rfl, hx4⟩))
      go_ret2
      exact ⟨rfl, ((hx3.trans hx1).trans hx2).trans hx4⟩
    · rw [if_neg h0] at hn
      subst hn
      have g : (PE != 0) = true := by rw [bne_iff_ne]; exact h0
      clear h0
      go_enter Tryd.func17, Tryd.ntmps17
      go_wp2_with (first | (go_at_call 52; refine (HCK.out _ hx3).mono ?_; rintro e w1 ⟨rfl, hx1⟩; obtain ⟨d0, d1, l0⟩ := HBX.out _ hx1) | (go_at_call 53; refine (HPA.out _ (hx3.trans hx1)).mono ?_; rintro e w2 ⟨rfl, hx2⟩; obtain ⟨d0, d1, l0⟩ := HBX.out _ (hx1.trans hx2)))
      go_ret2
      exact ⟨rfl, (hx3.trans hx1).trans hx2⟩
  · rw [checkN_bad hok] at hck
    have hp : costE A x y = 7 := if_neg hok
    have hn : costN A x y = 0 := by unfold costN; rw [hp]; rfl
    rw [hp, hn]
    clear hpa hp hn
    go_enter Tryd.func17, Tryd.ntmps17
    go_wp2_with (go_at_call 52; refine (hck _ hx3).mono ?_; rintro e w1 ⟨rfl, hx1⟩)
    go_ret2
    exact ⟨rfl, hx3.trans hx1⟩

end Go.Proofs.YtobajknhnjceiaaDoor
