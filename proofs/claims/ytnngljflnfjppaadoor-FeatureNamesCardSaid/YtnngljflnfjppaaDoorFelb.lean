/- Contracts: slices.Index over texts, feature.Bit, feature.Least; the reference's named, Bit, Least. -/
import Derived.Test.YtnngljflnfjppaaDoorFeati
import Derived.Test.YtnngljflnfjppaaDoorSpez
import Derived.Test.YtnngljflnfjppaaDoorFelz
namespace Go.Proofs.YtnngljflnfjppaaDoor
open Go.RowKit Go.Cg Go.Shelf Go.Maps

set_option maxHeartbeats 1000000 in
theorem IndexS_any (fp lp : Option Addr) (fc : Nat) (A : Alpha) (s : ByteArray) (w : World) (hA : AlphaAt w fp lp A) :
    Calls Tryd.prog 67 #[.slice fp A.feats.length fc, .string s] w fun e w' => e = .returned (.int .i64 (namedI A s)) ∧ Ext w w' := by
  have hb := hA.fbig
  go_enter Tryd.func67, Tryd.ntmps67
  go_wp2_with fail
  go_loopw [8] (fun i wr => ∃ k : Nat, k ≤ A.feats.length ∧ Hid (∀ j, j < k → A.ft j ≠ s) ∧ i = .int .i64 k ∧ Ext w wr) (fun i _ => A.feats.length - (intOf i).toNat)
  case atStart => exact ⟨0, Nat.zero_le _, fun j hj => by omega, rfl, Ext.refl _⟩
  case round =>
    obtain ⟨k, hk, HN, rfl, hx⟩ := hrel
    by_cases hlt : k < A.feats.length
    · obtain ⟨b, off, rfl, hbw, c0⟩ := (hA.mono hx).fcells hlt
      cases he : (s.toList == (A.ft k).toList)
      · go_wp2_with fail
        refine ⟨⟨k + 1, by omega, upto_succ HN.out (fun e => bytes_ne_iff.1 he e.symm), by go_num, hx⟩, by simp [intOf]; omega⟩
      · go_wp2_with fail
        go_ret
        exact ⟨ret_int (namedI_at hlt HN.out (bytes_eq_iff.1 he).symm).symm, hx⟩
    · go_wp2_with fail
      go_ret
      exact ⟨ret_int (namedI_none fun j hj => HN.out j (by omega)).symm, hx⟩

theorem bit_wrap {k : Nat} (h : k < 24) : (2 : Int) ^ k % 4294967296 = ((2 ^ k : Nat) : Int) := by
  have : 2 ^ k < 2 ^ 24 := Nat.pow_lt_pow_right (by omega) h
  have e : (2 : Nat) ^ 24 = 16777216 := by decide
  have e2 : (2 : Int) ^ k = ((2 ^ k : Nat) : Int) := by simp
  rw [e2]
  generalize 2 ^ k = z at *
  omega

set_option maxRecDepth 100000 in
set_option maxHeartbeats 1000000 in
theorem least_any (fp lp rp : Option Addr) (fc lc rc : Nat) (A : Alpha) (l : List Int) (w : World) (hA : AlphaAt w fp lp A) (hR : RunesAt w rp l) :
    Calls Tryd.prog 11 #[.agg #[.slice fp A.feats.length fc, .slice lp A.lets.length lc], .slice rp l.length rc] w fun e w' => e = .returned (.tuple #[.int .u32 (leastP A l : Nat), .int .u32 (leastM A l : Nat), .int .i64 (leastE A l)]) ∧ Ext w w' := by
  have hx3 : Ext w (w.alloc (.cells #[.slice fp A.feats.length fc, .slice lp A.lets.length lc] 26)) := (Ext.refl _).alloc _
  have hrb := hR.big
  by_cases hok : A.Ok
  · have hC := checkN_ok hok
    by_cases h1 : 128 < l.length
    · have hE : leastE A l = 4 := by unfold leastE; rw [if_pos hok, if_pos h1]
      have hP : leastP A l = 0 := by unfold leastP; rw [if_neg (by omega)]
      have hM : leastM A l = 0 := by unfold leastM; rw [if_neg (by omega)]
      rw [hE, hP, hM]
      go_enter Tryd.func11, Tryd.ntmps11
      go_wp2_with (first | (go_at_call 10; refine (check_any _ _ _ _ _ _ (hA.mono hx3)).mono ?_; rintro e w1 ⟨rfl, hx1⟩))
      go_ret3
      exact ⟨rfl, hx3.trans hx1⟩
    · by_cases h2 : l.length = 0
      · have hE : leastE A l = 8 := by unfold leastE; rw [if_pos hok, if_neg h1, if_pos h2]
        have hP : leastP A l = 0 := by unfold leastP; rw [if_neg (by omega)]
        have hM : leastM A l = 0 := by unfold leastM; rw [if_neg (by omega)]
        rw [hE, hP, hM]
        go_enter Tryd.func11, Tryd.ntmps11
        go_wp2_with (first | (go_at_call 10; refine (check_any _ _ _ _ _ _ (hA.mono hx3)).mono ?_; rintro e w1 ⟨rfl, hx1⟩))
        go_ret3
        exact ⟨rfl, hx3.trans hx1⟩
      · have hz : ((l.length : Int) == 0) = false := by rw [beq_eq_false_iff_ne]; omega
        go_enter Tryd.func11, Tryd.ntmps11
        go_wp2_with (first | (go_at_call 10; refine (check_any _ _ _ _ _ _ (hA.mono hx3)).mono ?_; rintro e w1 ⟨rfl, hx1⟩))
        go_loopw [4, 5, 25] (fun p m i wr => ∃ k : Nat, k ≤ l.length ∧ Hid (∀ j, j < k → 0 ≤ findLetter A (rn l j)) ∧ p = .int .u32 (landP A l 16777215 k : Nat) ∧ m = .int .u32 (landM A l 16777215 k : Nat) ∧ i = .int .i64 k ∧ Ext (w.alloc (.cells #[.slice fp A.feats.length fc, .slice lp A.lets.length lc] 26)) wr) (fun _ _ i _ => l.length - (intOf i).toNat)
        case atStart => exact ⟨0, Nat.zero_le _, fun j hj => by omega, rfl, rfl, rfl, hx1⟩
        case round =>
          clear hx1
          obtain ⟨k, hk, HN, rfl, rfl, rfl, hx⟩ := hrel
          have hx0 := hx.box
          have hlw := hx.lt0
          have d0 := hx.cell0 0; have d1 := hx.cell0 1; simp at d0 d1
          have lP := landP_lt A l 16777215 (by decide) k
          have lM := landM_lt A l 16777215 (by decide) k
          by_cases hlt : k < l.length
          · obtain ⟨b, off, rfl, hbw, c0⟩ := (hR.mono hx0).cells hlt
            obtain ⟨_, _, wf3, wf4⟩ := ofL_wf hA.wf (rn l k)
            have e1 := Lib.hid (u32_and_nat _ _ lP wf3)
            have e2 := Lib.hid (u32_and_nat _ _ lM wf4)
            have HO := Lib.hid (fun W (hW : Ext wr W) => of_any fp lp fc lc A (rn l k) W (hA.mono (hx0.trans hW)))
            by_cases hf : 0 ≤ findLetter A (rn l k)
            · have hoE := ofE_ok hok hf
              go_wp2_with (first | (go_at_call 45; refine (HO.out _ (Ext.refl _)).mono ?_; rw [hoE]; rintro e w1 ⟨rfl, hx1⟩))
              refine ⟨⟨k + 1, by omega, upto_succ HN.out hf, by rw [e1.out]; rfl, by rw [e2.out]; rfl, by go_num, (hx.trans hx1).alloc _⟩, by simp [intOf]; omega⟩
            · have hoE := ofE_none hok hf
              have hE : leastE A l = 5 := by unfold leastE; rw [if_pos hok, if_neg h1, if_neg h2, if_neg fun h => hf (h k hlt)]
              have hP : leastP A l = 0 := by unfold leastP; rw [if_neg (by omega)]
              have hM : leastM A l = 0 := by unfold leastM; rw [if_neg (by omega)]
              have HE := Lib.hid hE; have HP := Lib.hid hP; have HM := Lib.hid hM
              clear hE hP hM
              go_wp2_with (first | (go_at_call 45; refine (HO.out _ (Ext.refl _)).mono ?_; rw [hoE]; rintro e w1 ⟨rfl, hx1⟩))
              go_ret3
              exact ⟨by rw [HE.out, HP.out, HM.out]; rfl, (hx0.trans hx1).alloc _⟩
          · have e : k = l.length := by omega
            have hE : leastE A l = 0 := by unfold leastE; rw [if_pos hok, if_neg h1, if_neg h2, if_pos fun i hi => HN.out i (by omega)]
            have hP : leastP A l = landP A l 16777215 k := by unfold leastP; rw [if_pos hE, e]
            have hM : leastM A l = landM A l 16777215 k := by unfold leastM; rw [if_pos hE, e]
            have HE := Lib.hid hE; have HP := Lib.hid hP; have HM := Lib.hid hM
            clear hE hP hM
            go_wp2_with fail
            go_ret3
            exact ⟨by rw [HE.out, HP.out, HM.out]; rfl, hx0⟩
  · have hC := checkN_bad hok
    have hE : leastE A l = 7 := by unfold leastE; rw [if_neg hok]
    have hP : leastP A l = 0 := by unfold leastP; rw [if_neg (by omega)]
    have hM : leastM A l = 0 := by unfold leastM; rw [if_neg (by omega)]
    rw [hE, hP, hM]
    go_enter Tryd.func11, Tryd.ntmps11
    go_wp2_with (first | (go_at_call 10; refine (check_any _ _ _ _ _ _ (hA.mono hx3)).mono ?_; rintro e w1 ⟨rfl, hx1⟩))
    go_ret3
    exact ⟨rfl, hx3.trans hx1⟩
end Go.Proofs.YtnngljflnfjppaaDoor
