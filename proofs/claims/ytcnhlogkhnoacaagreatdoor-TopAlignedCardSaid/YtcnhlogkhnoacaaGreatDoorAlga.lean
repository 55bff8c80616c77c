/- Contracts: align.far, letter, Cost; cognateref21.Of, pair, Cost. -/
import Derived.Test.YtcnhlogkhnoacaaGreatDoorAlz
import Derived.Test.YtcnhlogkhnoacaaGreatDoorFelc
import Derived.Test.YtcnhlogkhnoacaaGreatDoorFeath
import Derived.Test.YtcnhlogkhnoacaaGreatDoorFeate
import Derived.Test.YtcnhlogkhnoacaaGreatDoorWorda
namespace Go.Cg
open Go.RowKit
/-- how far two letters are, and that they differ -/
def frA (A : Alpha) (x y : Int) : Nat := if x = y then 0 else 2 + farN A x y
theorem frA_self (A : Alpha) (x : Int) : frA A x x = 0 := if_pos rfl
def farC (A : Alpha) (x y : Int) : Nat := pc (frA A) (x, y)
theorem farC_same (A : Alpha) (x : Int) : farC A x x = 0 := if_pos rfl
theorem farC_gap {A : Alpha} {x y : Int} (h : x ≠ y) (h0 : x = 0 ∨ y = 0) : farC A x y = 5 := by unfold farC pc; rw [if_neg h, if_pos h0]
theorem farC_two {A : Alpha} {x y : Int} (h : x ≠ y) (h1 : x ≠ 0) (h2 : y ≠ 0) : farC A x y = 2 + farN A x y := by
  unfold farC pc; rw [if_neg h, if_neg (fun k => k.elim h1 h2)]; exact if_neg h
theorem farN_32 (A : Alpha) (x y : Int) : farN A x y ≤ 32 := by
  unfold farN; split
  · exact pop_le _ _
  · omega
theorem farC_le (A : Alpha) (x y : Int) : farC A x y ≤ 34 := by
  have hl := farN_32 A x y
  by_cases h : x = y
  · subst h; rw [farC_same]; omega
  · by_cases h0 : x = 0 ∨ y = 0
    · rw [farC_gap h h0]; omega
    · rw [farC_two h (fun k => h0 (.inl k)) (fun k => h0 (.inr k))]; omega
/-- the error of a rune that is a letter, or 0 -/
def lettE (A : Alpha) (r : Int) : Int := if r = 0 then 0 else ofE A r
def pairE (A : Alpha) (x y : Int) : Int := if x ≠ 0 ∧ ¬ 0 ≤ findLetter A x then 5 else if y ≠ 0 ∧ ¬ 0 ≤ findLetter A y then 5 else if x = 0 ∧ y = 0 then 2 else 0
theorem lettE_ok {A : Alpha} {x : Int} (hok : A.Ok) : lettE A x = if x ≠ 0 ∧ ¬ 0 ≤ findLetter A x then 5 else 0 := by
  unfold lettE
  by_cases h : x = 0
  · rw [if_pos h, if_neg (fun k => k.1 h)]
  · rw [if_neg h]
    by_cases hf : 0 ≤ findLetter A x
    · rw [ofE_ok hok hf, if_neg (fun k => k.2 hf)]
    · rw [ofE_none hok hf, if_pos ⟨h, hf⟩]
theorem pairE_ok {A : Alpha} {x y : Int} (hok : A.Ok) : pairE A x y = if lettE A x ≠ 0 then lettE A x else if lettE A y ≠ 0 then lettE A y else if x = 0 ∧ y = 0 then 2 else 0 := by
  have e1 := lettE_ok (x := x) hok
  have e2 := lettE_ok (x := y) hok
  unfold pairE
  by_cases h1 : x ≠ 0 ∧ ¬ 0 ≤ findLetter A x
  · rw [if_pos h1] at e1
    rw [if_pos h1, e1, if_pos (by decide)]
  · rw [if_neg h1] at e1
    rw [if_neg h1, e1, if_neg (by decide : ¬ ((0 : Int) ≠ 0))]
    by_cases h2 : y ≠ 0 ∧ ¬ 0 ≤ findLetter A y
    · rw [if_pos h2] at e2
      rw [if_pos h2, e2, if_pos (by decide)]
    · rw [if_neg h2] at e2
      rw [if_neg h2, e2, if_neg (by decide : ¬ ((0 : Int) ≠ 0))]
def costE (A : Alpha) (x y : Int) : Int := if A.Ok then pairE A x y else 7
def costN (A : Alpha) (x y : Int) : Nat := if costE A x y = 0 then farC A x y else 0
end Go.Cg
namespace Go.Proofs.YtcnhlogkhnoacaaGreatDoor
open Go.RowKit Go.Cg Go.Shelf Go.Maps

set_option maxHeartbeats 800000 in
theorem farP_any (fp lp : Option Addr) (fc lc : Nat) (A : Alpha) (x y : Int) (w : World) (hA : AlphaAt w fp lp A) :
    Calls Tryz.prog 62 #[.agg #[.slice fp A.feats.length fc, .slice lp A.lets.length lc], .int .i32 x, .int .i32 y] w fun e w' => e = .returned (.int .i64 (farC A x y : Nat)) ∧ Ext w w' := by
  have hx3 : Ext w (w.alloc (.cells #[.slice fp A.feats.length fc, .slice lp A.lets.length lc] 25)) := (Ext.refl _).alloc _
  have hle := farC_le A x y
  by_cases h : x = y
  · subst h
    rw [farC_same]
    go_enter Tryz.func62, Tryz.ntmps62
    go_wp2_with fail
    go_ret
    exact ⟨rfl, hx3⟩
  · have g1 : (x == y) = false := by rw [beq_eq_false_iff_ne]; exact h
    by_cases h1 : x = 0
    · rw [farC_gap h (.inl h1)]
      subst h1
      go_enter Tryz.func62, Tryz.ntmps62
      go_wp2_with fail
      go_ret
      exact ⟨rfl, hx3⟩
    · have g2 : (x == 0) = false := by rw [beq_eq_false_iff_ne]; exact h1
      by_cases h2 : y = 0
      · rw [farC_gap h (.inr h2)]
        subst h2
        go_enter Tryz.func62, Tryz.ntmps62
        go_wp2_with fail
        go_ret
        exact ⟨rfl, hx3⟩
      · have g3 : (y == 0) = false := by rw [beq_eq_false_iff_ne]; exact h2
        have e := farC_two (A := A) h h1 h2
        have HE := Lib.hid e
        have hf := far_any fp lp fc lc A x y _ (hA.mono hx3)
        have hfn : farN A x y ≤ 32 := by omega
        clear e h h1 h2 hle
        go_enter Tryz.func62, Tryz.ntmps62
        go_wp2_with (go_at_call 101; refine hf.mono ?_; rintro e w1 ⟨rfl, hx1⟩)
        go_ret
        exact ⟨by rw [HE.out]; go_num, hx3.trans hx1⟩

set_option maxHeartbeats 800000 in
theorem lettP_any (fp lp : Option Addr) (fc lc : Nat) (A : Alpha) (r : Int) (w : World) (hA : AlphaAt w fp lp A) :
    Calls Tryz.prog 66 #[.agg #[.slice fp A.feats.length fc, .slice lp A.lets.length lc], .int .i32 r] w fun e w' => e = .returned (.int .i64 (lettE A r)) ∧ Ext w w' := by
  have hx3 : Ext w (w.alloc (.cells #[.slice fp A.feats.length fc, .slice lp A.lets.length lc] 25)) := (Ext.refl _).alloc _
  by_cases h : r = 0
  · rw [show lettE A r = 0 from if_pos h]
    subst h
    go_enter Tryz.func66, Tryz.ntmps66
    go_wp2_with fail
    go_ret
    exact ⟨rfl, hx3⟩
  · have g : (r == 0) = false := by rw [beq_eq_false_iff_ne]; exact h
    rw [show lettE A r = ofE A r from if_neg h]
    have hf := of_any fp lp fc lc A r _ (hA.mono hx3)
    clear h
    go_enter Tryz.func66, Tryz.ntmps66
    go_wp2_with (go_at_call 75; refine hf.mono ?_; rintro e w1 ⟨rfl, hx1⟩)
    go_ret
    exact ⟨rfl, (hx3.trans hx1).alloc _⟩

set_option maxRecDepth 100000 in
set_option maxHeartbeats 2000000 in
theorem Cost_any (fp lp : Option Addr) (fc lc : Nat) (A : Alpha) (x y : Int) (w : World) (hA : AlphaAt w fp lp A) :
    Calls Tryz.prog 34 #[.agg #[.slice fp A.feats.length fc, .slice lp A.lets.length lc], .int .i32 x, .int .i32 y] w fun e w' => e = .returned (.tuple #[.int .i64 (costN A x y : Nat), .int .i64 (costE A x y)]) ∧ Ext w w' := by
  have hx3 : Ext w (w.alloc (.cells #[.slice fp A.feats.length fc, .slice lp A.lets.length lc] 25)) := (Ext.refl _).alloc _
  have hck := fun W hW => check_any fp lp fc lc A W (hA.mono hW)
  have hlt := fun r W hW => lettP_any fp lp fc lc A r W (hA.mono hW)
  have hfa := fun W hW => farP_any fp lp fc lc A x y W (hA.mono hW)
  have hbx : ∀ W, Ext (w.alloc (.cells #[.slice fp A.feats.length fc, .slice lp A.lets.length lc] 25)) W → W.cell? ⟨w.heap.size, 0, none⟩ = some (.slice fp A.feats.length fc) ∧ W.cell? ⟨w.heap.size, 1, none⟩ = some (.slice lp A.lets.length lc) ∧ w.heap.size < W.heap.size := fun W hW => ⟨hW.cell0 0, hW.cell0 1, hW.lt0⟩
  have HBX := Lib.hid hbx
  have HFA := Lib.hid hfa
  clear hbx hfa
  by_cases hok : A.Ok
  · rw [checkN_ok hok] at hck
    have HCK := Lib.hid hck
    have hpe : costE A x y = if lettE A x ≠ 0 then lettE A x else if lettE A y ≠ 0 then lettE A y else if x = 0 ∧ y = 0 then 2 else 0 := (if_pos hok).trans (pairE_ok hok)
    have hn : costN A x y = if costE A x y = 0 then farC A x y else 0 := rfl
    have hlx := hlt x
    have hly := hlt y
    obtain ⟨EX, hEX⟩ : ∃ v, lettE A x = v := ⟨_, rfl⟩
    obtain ⟨EY, hEY⟩ : ∃ v, lettE A y = v := ⟨_, rfl⟩
    rw [hEX] at hpe hlx
    rw [hEY] at hpe hly
    obtain ⟨CE, hCE⟩ : ∃ v, costE A x y = v := ⟨_, rfl⟩
    obtain ⟨CN, hCN⟩ : ∃ v, costN A x y = v := ⟨_, rfl⟩
    rw [hCE] at hpe hn
    rw [hCN] at hn
    rw [hCE, hCN]
    have HLX := Lib.hid hlx
    have HLY := Lib.hid hly
    clear hck hlt hlx hly hEX hEY hCE hCN
    by_cases h1 : EX = 0
    · subst h1
      rw [if_neg (by decide)] at hpe
      by_cases h2 : EY = 0
      · subst h2
        rw [if_neg (by decide)] at hpe
        by_cases h3 : x = 0 ∧ y = 0
        · rw [if_pos h3] at hpe
          subst hpe
          rw [if_neg (by decide)] at hn
          subst hn
          obtain ⟨rfl, rfl⟩ := h3
          go_enter Tryz.func34, Tryz.ntmps34
          go_wp2_with (go_at_call 33; refine (HCK.out _ hx3).mono ?_; rintro e w1 ⟨rfl, hx1⟩; obtain ⟨d0, d1, l0⟩ := HBX.out _ hx1)
          refine (HLX.out _ (hx3.trans hx1)).mono ?_
          rintro e w2 ⟨rfl, hx2⟩
          obtain ⟨d0, d1, l0⟩ := HBX.out _ (hx1.trans hx2)
          go_wp2_with fail
          refine (HLY.out _ ((hx3.trans hx1).trans hx2)).mono ?_
          rintro e w4 ⟨rfl, hx4⟩
          go_wp2_with fail
          go_ret2
          exact ⟨rfl, ((hx3.trans hx1).trans hx2).trans hx4⟩
        · rw [if_neg h3] at hpe
          subst hpe
          rw [if_pos rfl] at hn
          subst hn
          have gx : (x == 0) = decide (x = 0) := by rw [Bool.eq_iff_iff]; simp
          by_cases hx0 : x = 0
          · have hy0 : y ≠ 0 := fun h => h3 ⟨hx0, h⟩
            have g2 : (y == 0) = false := by rw [beq_eq_false_iff_ne]; exact hy0
            clear gx
            subst hx0
            go_enter Tryz.func34, Tryz.ntmps34
            go_wp2_with (go_at_call 33; refine (HCK.out _ hx3).mono ?_; rintro e w1 ⟨rfl, hx1⟩; obtain ⟨d0, d1, l0⟩ := HBX.out _ hx1)
            refine (HLX.out _ (hx3.trans hx1)).mono ?_
            rintro e w2 ⟨rfl, hx2⟩
            obtain ⟨d0, d1, l0⟩ := HBX.out _ (hx1.trans hx2)
            go_wp2_with fail
            refine (HLY.out _ ((hx3.trans hx1).trans hx2)).mono ?_
            rintro e w4 ⟨rfl, hx4⟩
            obtain ⟨d0, d1, l0⟩ := HBX.out _ ((hx1.trans hx2).trans hx4)
            go_wp2_with fail
            refine (HFA.out _ (((hx3.trans hx1).trans hx2).trans hx4)).mono ?_
            rintro e w5 ⟨rfl, hx5⟩
            go_wp2_with fail
            go_ret2
            exact ⟨rfl, (((hx3.trans hx1).trans hx2).trans hx4).trans hx5⟩
          · have g1 : (x == 0) = false := by rw [beq_eq_false_iff_ne]; exact hx0
            clear gx
            go_enter Tryz.func34, Tryz.ntmps34
            go_wp2_with (go_at_call 33; refine (HCK.out _ hx3).mono ?_; rintro e w1 ⟨rfl, hx1⟩; obtain ⟨d0, d1, l0⟩ := HBX.out _ hx1)
            refine (HLX.out _ (hx3.trans hx1)).mono ?_
            rintro e w2 ⟨rfl, hx2⟩
            obtain ⟨d0, d1, l0⟩ := HBX.out _ (hx1.trans hx2)
            go_wp2_with fail
            refine (HLY.out _ ((hx3.trans hx1).trans hx2)).mono ?_
            rintro e w4 ⟨rfl, hx4⟩
            obtain ⟨d0, d1, l0⟩ := HBX.out _ ((hx1.trans hx2).trans hx4)
            go_wp2_with fail
            refine (HFA.out _ (((hx3.trans hx1).trans hx2).trans hx4)).mono ?_
            rintro e w5 ⟨rfl, hx5⟩
            go_wp2_with fail
            go_ret2
            exact ⟨rfl, (((hx3.trans hx1).trans hx2).trans hx4).trans hx5⟩
      · have g2 : (EY != 0) = true := by rw [bne_iff_ne]; exact h2
        rw [if_pos h2] at hpe
        subst hpe
        rw [if_neg h2] at hn
        subst hn
        clear h2
        go_enter Tryz.func34, Tryz.ntmps34
        go_wp2_with (go_at_call 33; refine (HCK.out _ hx3).mono ?_; rintro e w1 ⟨rfl, hx1⟩; obtain ⟨d0, d1, l0⟩ := HBX.out _ hx1)
        refine (HLX.out _ (hx3.trans hx1)).mono ?_
        rintro e w2 ⟨rfl, hx2⟩
        obtain ⟨d0, d1, l0⟩ := HBX.out _ (hx1.trans hx2)
        go_wp2_with fail
        refine (HLY.out _ ((hx3.trans hx1).trans hx2)).mono ?_
        rintro e w4 ⟨rfl, hx4⟩
        go_wp2_with fail
        go_ret2
        exact ⟨rfl, ((hx3.trans hx1).trans hx2).trans hx4⟩
    · have g1 : (EX != 0) = true := by rw [bne_iff_ne]; exact h1
      rw [if_pos h1] at hpe
      subst hpe
      rw [if_neg h1] at hn
      subst hn
      clear h1
      go_enter Tryz.func34, Tryz.ntmps34
      go_wp2_with (go_at_call 33; refine (HCK.out _ hx3).mono ?_; rintro e w1 ⟨rfl, hx1⟩; obtain ⟨d0, d1, l0⟩ := HBX.out _ hx1)
      refine (HLX.out _ (hx3.trans hx1)).mono ?_
      rintro e w2 ⟨rfl, hx2⟩
      go_wp2_with fail
      go_ret2
      exact ⟨rfl, (hx3.trans hx1).trans hx2⟩
  · rw [checkN_bad hok] at hck
    have hp : costE A x y = 7 := if_neg hok
    have hn : costN A x y = 0 := by unfold costN; rw [hp]; rfl
    rw [hp, hn]
    clear hlt hp hn
    go_enter Tryz.func34, Tryz.ntmps34
    go_wp2_with (go_at_call 33; refine (hck _ hx3).mono ?_; rintro e w1 ⟨rfl, hx1⟩)
    go_ret2
    exact ⟨rfl, hx3.trans hx1⟩

end Go.Proofs.YtcnhlogkhnoacaaGreatDoor
