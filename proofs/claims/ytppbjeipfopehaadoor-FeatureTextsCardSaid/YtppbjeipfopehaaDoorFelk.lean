/- The law FeatureNearest holds (its walk): none is nearer. -/
import Derived.Test.YtppbjeipfopehaaDoorFelj
namespace Go.Proofs.YtppbjeipfopehaaDoor
open Go.RowKit Go.Cg Go.Shelf Go.Maps

theorem bits_ne {x y k : Nat} (hx : x < 4294967296) (hy : y < 4294967296) : (bits BinOp.and IntKind.u32 ((x : Int) / 2 ^ k) 1 != bits BinOp.and IntKind.u32 ((y : Int) / 2 ^ k) 1) = (x ^^^ y).testBit k := by
  rw [bit_at hx, bit_at hy, Nat.testBit_xor]
  cases x.testBit k <;> cases y.testBit k <;> rfl

set_option maxRecDepth 100000 in
set_option maxHeartbeats 1000000 in
theorem signs_any (r : Int) (lp lm p m : Nat) (h1 : lp < 4294967296) (h2 : lm < 4294967296) (hp : p < 4294967296) (hm : m < 4294967296) (w : World) :
    Calls Tryd.prog 28 #[.agg #[.int .i32 r, .int .u32 lp, .int .u32 lm], .int .u32 p, .int .u32 m] w fun e w' => e = .returned (.int .i64 (pop 24 ((lp ^^^ p) ||| (lm ^^^ m)) : Nat)) ∧ Ext w w' := by
  go_enter Tryd.func28, Tryd.ntmps28
  go_wp2
  go_loop [7, 8] (fun n i => ∃ k : Nat, k ≤ 24 ∧ n = .int .i64 (pop k ((lp ^^^ p) ||| (lm ^^^ m)) : Nat) ∧ i = .int .i64 k) (fun _ i => 24 - (intOf i).toNat)
  case atStart => exact ⟨0, by omega, rfl, rfl⟩
  case round =>
    obtain ⟨k, hk, rfl, rfl⟩ := hrel
    have e1 := bits_ne (k := k) h1 hp
    have e2 := bits_ne (k := k) h2 hm
    have hst := pop_succ k ((lp ^^^ p) ||| (lm ^^^ m))
    rw [Nat.testBit_or] at hst
    have hpl := pop_le k ((lp ^^^ p) ||| (lm ^^^ m))
    by_cases hlt : k < 24
    · cases b1 : (lp ^^^ p).testBit k
      · cases b2 : (lm ^^^ m).testBit k
        · rw [b1] at e1
          rw [b2] at e2
          rw [b1, b2] at hst
          have HS := Lib.hid hst
          clear hst b1 b2
          go_wp2
          exact ⟨⟨k + 1, by omega, by rw [HS.out]; rfl, by go_num⟩, by simp [intOf]; omega⟩
        · rw [b1] at e1
          rw [b2] at e2
          rw [b1, b2] at hst
          have HS := Lib.hid hst
          clear hst b1 b2
          go_wp2
          exact ⟨⟨k + 1, by omega, by rw [HS.out]; rfl, by go_num⟩, by simp [intOf]; omega⟩
      · rw [b1] at e1
        rw [b1] at hst
        have HS := Lib.hid hst
        clear hst b1 e2
        go_wp2
        exact ⟨⟨k + 1, by omega, by rw [HS.out]; rfl, by go_num⟩, by simp [intOf]; omega⟩
    · have e : k = 24 := by omega
      subst e
      clear hst e1 e2
      go_wp2
      go_ret
      exact ⟨rfl, (Ext.refl _).alloc _⟩

theorem hasE_zero {A : Alpha} {r : Int} {p m : Nat} (h : hasE A r p m = 0) : ofE A r = 0 ∧ mayB A.feats.length p m = true := by
  unfold hasE at h
  split at h
  · rename_i h0
    split at h
    · rename_i h1; exact ⟨h0, h1⟩
    · omega
  · contradiction
theorem ofE_zero {A : Alpha} {r : Int} (h : ofE A r = 0) : A.Ok ∧ 0 ≤ findLetter A r := by
  rcases ofE_cases A r with ⟨_, h, h'⟩ | ⟨h, _⟩ | ⟨h, _⟩
  · exact ⟨h, h'⟩
  · omega
  · omega
theorem runes_distinct {A : Alpha} (hok : A.Ok) {i j : Nat} (hi : i < A.lets.length) (hj : j < A.lets.length) (h : (A.at_ i).rune = (A.at_ j).rune) : i = j := by
  rcases Nat.lt_trichotomy i j with hh | hh | hh
  · exact absurd h ((hok.2.2.2.2 j hj).2.2 i hh)
  · exact hh
  · exact absurd h.symm ((hok.2.2.2.2 i hi).2.2 j hh)
theorem ofL_at {A : Alpha} (hok : A.Ok) {i : Nat} (hi : i < A.lets.length) : ofL A (A.at_ i).rune = A.at_ i ∧ ofE A (A.at_ i).rune = 0 := by
  have hf : findLetter A (A.at_ i).rune = i := findLetter_at hi (fun j hj => (hok.2.2.2.2 i hi).2.2 j hj) rfl
  exact ⟨ofL_ok hok hf, ofE_ok hok (by omega)⟩
theorem want_zero (l : Letter) (hl : l.wf) : wantP l 0 0 = l.plus ∧ wantM l 0 0 = l.minus := by
  obtain ⟨_, _, h3, h4⟩ := hl
  have e : ∀ v, v < 4294967296 → (v &&& (4294967295 - 0)) ||| 0 = v := fun v hv => by
    have := (and_mask_iff (v := v) (n := 32)).2 (by rw [show (2 : Nat) ^ 32 = 4294967296 from by decide]; exact hv)
    rw [show (2 : Nat) ^ 32 - 1 = 4294967295 - 0 from by decide] at this
    rw [this, Nat.or_zero]
  unfold wantP wantM
  exact ⟨e _ h3, e _ h4⟩

set_option maxRecDepth 100000 in
set_option maxHeartbeats 4000000 in
theorem featureNearest_any (fp lp : Option Addr) (fc lc : Nat) (A : Alpha) (r : Int) (p : Nat) (hp : p < 4294967296) (m : Nat) (hm : m < 4294967296) (w : World) (hA : AlphaAt w fp lp A) :
    Calls Tryd.prog 5 #[.agg #[.slice fp A.feats.length fc, .slice lp A.lets.length lc], .int .i32 r, .int .u32 p, .int .u32 m] w fun e w' => e = .returned (.bool true) ∧ Ext w w' := by
  have hx0 : Ext w (w.alloc (.cells #[.slice fp A.feats.length fc, .slice lp A.lets.length lc] 26)) := (Ext.refl _).alloc _
  have hb0 : Ext (w.alloc (.cells #[.slice fp A.feats.length fc, .slice lp A.lets.length lc] 26)) (w.alloc (.cells #[.slice fp A.feats.length fc, .slice lp A.lets.length lc] 26)) := Ext.refl _
  have hlb := hA.lbig
  have HN := Lib.hid (fun W (hW : Ext w W) => near_any fp lp fc lc A r p m hp hm W (hA.mono hW))
  have HO := Lib.hid (fun W (hW : Ext w W) r => of_any fp lp fc lc A r W (hA.mono hW))
  by_cases h0 : hasE A r p m = 0
  · obtain ⟨he, hmay⟩ := hasE_zero h0
    obtain ⟨hok, hf⟩ := ofE_zero he
    obtain ⟨i0, hi0, hil0, -⟩ := findLetter_some hf
    have hO := ofL_ok hok hi0
    have hn : 0 < A.lets.length := by omega
    have hN : nearR A r p m = (A.at_ (nearIdx A (wantP (A.at_ i0) p m) (wantM (A.at_ i0) p m))).rune := by unfold nearR; rw [if_pos h0, hO]
    have hpm : p < 2 ^ A.feats.length ∧ m < 2 ^ A.feats.length := by unfold mayB at hmay; simp only [decide_eq_true_eq] at hmay; exact ⟨hmay.1, hmay.2.1⟩
    have hwf0 := hA.wf i0 hil0
    have hwl := want_lt (A.at_ i0) hwf0 hp hm
    have h24' : ∀ k, k < A.lets.length → unlikeN (A.at_ k).plus (A.at_ k).minus (wantP (A.at_ i0) p m) (wantM (A.at_ i0) p m) = pop 24 (((A.at_ k).plus ^^^ wantP (A.at_ i0) p m) ||| ((A.at_ k).minus ^^^ wantM (A.at_ i0) p m)) := fun k hk => by
      have l1 := Ok_lt hok hk
      have l2 := Ok_lt hok hil0
      have h24 := pow24 hok.1
      have := want24 (l := A.at_ i0) (p := p) (m := m) (by omega) (by omega) (by omega) (by omega)
      exact pop24 (by omega) (by omega) this.1 this.2
    have hzero : p ||| m = 0 → ∀ k, k < A.lets.length → unlikeN (A.at_ k).plus (A.at_ k).minus (wantP (A.at_ i0) p m) (wantM (A.at_ i0) p m) = 0 → (A.at_ k).plus = (A.at_ i0).plus ∧ (A.at_ k).minus = (A.at_ i0).minus := fun hz k hk h => by
      have ep : p = 0 := by have := Nat.left_le_or (n := p) (m := m); omega
      have em : m = 0 := by have := Nat.right_le_or (n := p) (m := m); omega
      obtain ⟨_, _, w3, w4⟩ := hA.wf k hk
      obtain ⟨_, _, w5, w6⟩ := hwf0
      have hw := want_zero (A.at_ i0) (hA.wf i0 hil0)
      subst ep em
      rw [hw.1, hw.2] at h
      exact (unlikeN_zero w3 w4 w5 w6).1 h
    have hzero0 : p ||| m = 0 → unlikeN (A.at_ i0).plus (A.at_ i0).minus (wantP (A.at_ i0) p m) (wantM (A.at_ i0) p m) = 0 := fun hz => by
      have ep : p = 0 := by have := Nat.left_le_or (n := p) (m := m); omega
      have em : m = 0 := by have := Nat.right_le_or (n := p) (m := m); omega
      obtain ⟨_, _, w5, w6⟩ := hwf0
      have hw := want_zero (A.at_ i0) (hA.wf i0 hil0)
      subst ep em
      rw [hw.1, hw.2]
      exact (unlikeN_zero w5 w6 w5 w6).2 ⟨rfl, rfl⟩
    have E1 := Lib.hid (wantP_bits (A.at_ i0) hwf0 hp hm)
    have E2 := Lib.hid (wantM_bits (A.at_ i0) hwf0 hp hm)
    have hb := bestIdx_le (fun i => unlikeN (A.at_ i).plus (A.at_ i).minus (wantP (A.at_ i0) p m) (wantM (A.at_ i0) p m)) (A.lets.length - 1)
    have hbl := bestIdx_least (fun i => unlikeN (A.at_ i).plus (A.at_ i).minus (wantP (A.at_ i0) p m) (wantM (A.at_ i0) p m)) (A.lets.length - 1)
    have hbf := bestIdx_first (fun i => unlikeN (A.at_ i).plus (A.at_ i).minus (wantP (A.at_ i0) p m) (wantM (A.at_ i0) p m)) (A.lets.length - 1)
    unfold nearIdx at hN
    generalize wantP (A.at_ i0) p m = wp at *
    generalize wantM (A.at_ i0) p m = wm at *
    generalize bestIdx (fun i => unlikeN (A.at_ i).plus (A.at_ i).minus wp wm) (A.lets.length - 1) = b at *
    have hbn : b < A.lets.length := by omega
    have hOb := ofL_at hok hbn
    obtain ⟨g, hg⟩ : ∃ g : Nat → Nat, ∀ k, g k = unlikeN (A.at_ k).plus (A.at_ k).minus wp wm := ⟨_, fun _ => rfl⟩
    simp only [← hg] at *
    have HS := Lib.hid (fun (W : World) (k : Nat) (hk : k < A.lets.length) (h3 : (A.at_ k).plus < 4294967296) (h4 : (A.at_ k).minus < 4294967296) => by have := signs_any (A.at_ k).rune (A.at_ k).plus (A.at_ k).minus wp wm h3 h4 hwl.1 hwl.2 W; rw [← h24' k hk] at this; exact this)
    have HG := Lib.hid (fun k (hk : k < A.lets.length) => (by rw [h24' k hk]; exact pop_le 24 _ : g k ≤ 24))
    have HZ := Lib.hid (fun h => hzero h b hbn (by have h1 := hbl i0 (by omega); have h2 := hzero0 h; omega))
    have HBL := Lib.hid hbl
    have HBF := Lib.hid hbf
    have HD := Lib.hid (fun k (hk : k < A.lets.length) => runes_distinct (j := b) hok hk hbn)
    clear hg h24' hzero hzero0 hbl hbf hok hpm hmay
    obtain ⟨_, _, wb3, wb4⟩ := hA.wf b hbn
    go_enter Tryd.func5, Tryd.ntmps5
    go_wp2_with fail
    refine (alive_any _).mono ?_
    rintro e w1 ⟨rfl, hx1⟩
    have hb1 := hb0.trans hx1
    have hk1 := hx0.trans hx1
    have d0 := hb1.cell0 0
    have d1 := hb1.cell0 1
    simp only [List.getElem?_toArray, List.getElem?_cons_zero, List.getElem?_cons_succ] at d0 d1
    have hs := hb1.lt0
    go_wp2_with fail
    clear d0 d1 hs
    refine (HN.out _ hk1).mono ?_
    rw [h0, hN]
    rintro e w2 ⟨rfl, hx2⟩
    have hb2 := hb1.trans hx2
    have hk2 := hk1.trans hx2
    have d0 := hb2.cell0 0
    have d1 := hb2.cell0 1
    simp only [List.getElem?_toArray, List.getElem?_cons_zero, List.getElem?_cons_succ] at d0 d1
    have hs := hb2.lt0
    go_wp2_with fail
    clear d0 d1 hs
    refine (HO.out _ hk2 _).mono ?_
    rw [he, hO]
    rintro e w3 ⟨rfl, hx3⟩
    have hb3 := (hb2.trans hx3).alloc (.cells #[.int .i32 (A.at_ i0).rune, .int .u32 ((A.at_ i0).plus : Int), .int .u32 ((A.at_ i0).minus : Int)] 35)
    have hk3 := (hk2.trans hx3).alloc (.cells #[.int .i32 (A.at_ i0).rune, .int .u32 ((A.at_ i0).plus : Int), .int .u32 ((A.at_ i0).minus : Int)] 35)
    have d0 := hb3.cell0 0
    have d1 := hb3.cell0 1
    simp only [List.getElem?_toArray, List.getElem?_cons_zero, List.getElem?_cons_succ] at d0 d1
    have hs := hb3.lt0
    go_wp2_with fail
    clear d0 d1 hs
    refine (HO.out _ hk3 _).mono ?_
    rw [hOb.1, hOb.2]
    rintro e w4 ⟨rfl, hx4⟩
    have l0 := hx4.cell0 0
    have l1 := hx4.cell0 1
    have l2 := hx4.cell0 2
    simp only [List.getElem?_toArray, List.getElem?_cons_zero, List.getElem?_cons_succ] at l0 l1 l2
    have hl4 := hx4.lt0
    go_wp2_with fail
    rw [E1.out, E2.out]
    have hbA := (hb3.trans hx4).alloc (.cells #[.int .i32 (A.at_ b).rune, .int .u32 ((A.at_ b).plus : Int), .int .u32 ((A.at_ b).minus : Int)] 35)
    have hkA := (hk3.trans hx4).alloc (.cells #[.int .i32 (A.at_ b).rune, .int .u32 ((A.at_ b).plus : Int), .int .u32 ((A.at_ b).minus : Int)] 35)
    have hyA := hx4.alloc (.cells #[.int .i32 (A.at_ b).rune, .int .u32 ((A.at_ b).plus : Int), .int .u32 ((A.at_ b).minus : Int)] 35)
    have hzA := Ext.refl (w4.alloc (.cells #[.int .i32 (A.at_ b).rune, .int .u32 ((A.at_ b).plus : Int), .int .u32 ((A.at_ b).minus : Int)] 35))
    clear l0 l1 l2 hl4
    refine (HS.out _ b hbn wb3 wb4).mono ?_
    rintro e w5 ⟨rfl, hx5⟩
    have hb5 := hbA.trans hx5
    have hk5 := hkA.trans hx5
    have hy5 := hyA.trans hx5
    have hz5 := hzA.trans hx5
    clear hbA hkA hyA hzA hx5 hb3 hk3 hx4 hb2 hk2 hx3 hb1 hk1 hx2 hx1
    go_wp2_with fail
    go_loopw [19, 20] (fun met i wr => ∃ k : Nat, k ≤ A.lets.length ∧ met = .bool (decide (b < k)) ∧ i = .int .i64 k ∧ Ext w5 wr) (fun _ i _ => A.lets.length - (intOf i).toNat)
    case atStart => exact ⟨0, Nat.zero_le _, by simp, rfl, Ext.refl _⟩
    case round =>
      obtain ⟨k, hk, rfl, rfl, hx⟩ := hrel
      have d0 := (hb5.trans hx).cell0 0
      have d1 := (hb5.trans hx).cell0 1
      simp only [List.getElem?_toArray, List.getElem?_cons_zero, List.getElem?_cons_succ] at d0 d1
      have hs := (hb5.trans hx).lt0
      have hAr := hA.mono (hk5.trans hx)
      obtain ⟨bb, off, rfl, hbw⟩ := hA.lsome (by omega)
      by_cases hlk : k < A.lets.length
      · obtain ⟨hbw2, c0, c1, c2⟩ := hAr.lcell hlk
        obtain ⟨_, _, wk3, wk4⟩ := hA.wf k hlk
        go_wp2_with fail
        refine (HS.out _ k hlk wk3 wk4).mono ?_
        rintro e w6 ⟨rfl, hx6⟩
        have e0 := (hb5.trans (hx.trans hx6)).cell0 0
        have e1 := (hb5.trans (hx.trans hx6)).cell0 1
        simp only [List.getElem?_toArray, List.getElem?_cons_zero, List.getElem?_cons_succ] at e0 e1
        have hs6 := (hb5.trans (hx.trans hx6)).lt0
        obtain ⟨hbw6, f0, f1, f2⟩ := (hA.mono ((hk5.trans hx).trans hx6)).lcell hlk
        have hleast := HBL.out k (by omega)
        have hnl : decide ((g k : Int) < (g b : Int)) = false := by simp; omega
        rcases Nat.lt_trichotomy b k with hbk | hbk | hbk
        · have m1 : decide (b < k) = true := decide_eq_true hbk
          have m2 : decide (b < k + 1) = true := decide_eq_true (by omega)
          rw [m1]
          cases heq : ((g k : Int) == (g b : Int))
          · go_wp2_with fail
            exact ⟨⟨k + 1, by omega, by rw [m2], by go_num, hx.trans hx6⟩, by simp [intOf]; omega⟩
          · go_wp2_with fail
            exact ⟨⟨k + 1, by omega, by rw [m2], by go_num, hx.trans hx6⟩, by simp [intOf]; omega⟩
        · subst hbk
          have m1 : decide (b < b) = false := decide_eq_false (by omega)
          have m2 : decide (b < b + 1) = true := decide_eq_true (by omega)
          rw [m1]
          go_wp2_with fail
          exact ⟨⟨b + 1, by omega, by rw [m2], by go_num, hx.trans hx6⟩, by simp [intOf]; omega⟩
        · have m1 : decide (b < k) = false := decide_eq_false (by omega)
          have m2 : decide (b < k + 1) = false := decide_eq_false (by omega)
          have hr : ((A.at_ k).rune == (A.at_ b).rune) = false := by rw [beq_eq_false_iff_ne]; intro h; have := HD.out k hlk h; omega
          have heq : ((g k : Int) == (g b : Int)) = false := by have := HBF.out k hbk; rw [beq_eq_false_iff_ne]; omega
          rw [m1]
          go_wp2_with fail
          exact ⟨⟨k + 1, by omega, by rw [m2], by go_num, hx.trans hx6⟩, by simp [intOf]; omega⟩
      · have m1 : decide (b < k) = true := decide_eq_true (by omega)
        rw [m1]
        have l1 := (hy5.trans hx).cell0 1
        have l2 := (hy5.trans hx).cell0 2
        have q1 := (hz5.trans hx).cell0 1
        have q2 := (hz5.trans hx).cell0 2
        simp only [List.getElem?_toArray, List.getElem?_cons_zero, List.getElem?_cons_succ] at l1 l2 q1 q2
        have eor := u32_or_nat p m hp hm
        by_cases hz : p ||| m = 0
        · have g1 : (bits BinOp.or IntKind.u32 (p : Int) (m : Int) != 0) = false := by rw [eor, hz]; rfl
          obtain ⟨z1, z2⟩ := HZ.out hz
          have r1 : (((A.at_ b).plus : Int) == ((A.at_ i0).plus : Int)) = true := by rw [z1]; simp
          have r2 : (((A.at_ b).minus : Int) == ((A.at_ i0).minus : Int)) = true := by rw [z2]; simp
          clear z1 z2 eor
          go_wp2_with fail
          go_ret
          exact ⟨rfl, hk5.trans hx⟩
        · have g1 : (bits BinOp.or IntKind.u32 (p : Int) (m : Int) != 0) = true := by rw [eor, bne_iff_ne]; omega
          clear eor
          go_wp2_with fail
          go_ret
          exact ⟨rfl, hk5.trans hx⟩
  · have hne : (hasE A r p m != 0) = true := by rw [bne_iff_ne]; exact h0
    have hN : nearR A r p m = 0 := by unfold nearR; rw [if_neg h0]
    go_enter Tryd.func5, Tryd.ntmps5
    go_wp2_with fail
    refine (alive_any _).mono ?_
    rintro e w1 ⟨rfl, hx1⟩
    have hb1 := hb0.trans hx1
    have hk1 := hx0.trans hx1
    have d0 := hb1.cell0 0
    have d1 := hb1.cell0 1
    simp only [List.getElem?_toArray, List.getElem?_cons_zero, List.getElem?_cons_succ] at d0 d1
    have hs := hb1.lt0
    go_wp2_with fail
    clear d0 d1 hs
    refine (HN.out _ hk1).mono ?_
    rw [hN]
    rintro e w2 ⟨rfl, hx2⟩
    have hb2 := hb1.trans hx2
    have hk2 := hk1.trans hx2
    have d0 := hb2.cell0 0
    have d1 := hb2.cell0 1
    simp only [List.getElem?_toArray, List.getElem?_cons_zero, List.getElem?_cons_succ] at d0 d1
    have hs := hb2.lt0
    go_wp2_with fail
    clear d0 d1 hs
    refine (HO.out _ hk2 _).mono ?_
    rintro e w3 ⟨rfl, hx3⟩
    go_wp2_with fail
    go_ret
    exact ⟨rfl, (hk2.trans hx3).alloc _⟩
end Go.Proofs.YtppbjeipfopehaaDoor
