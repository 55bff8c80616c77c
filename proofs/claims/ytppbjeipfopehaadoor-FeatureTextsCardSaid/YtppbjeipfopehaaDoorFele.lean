/- Contracts: the reference's named, Bit. -/
import Derived.Test.YtppbjeipfopehaaDoorFelb
import Derived.Test.YtppbjeipfopehaaDoorFeld
import Derived.Test.YtppbjeipfopehaaDoorBuil
namespace Go.Proofs.YtppbjeipfopehaaDoor
open Go.RowKit Go.Cg Go.Shelf Go.Maps

theorem RunesAt.nil (w : World) : RunesAt w none [] := ⟨.inl rfl, by simp, fun i hi => absurd hi (by simp)⟩

theorem asked_list (A : Alpha) (l : List Int) : askedN A l = if A.Ok then (if ∀ i, i < l.length → 0 ≤ findLetter A (rn l i) then 0 else 5) else 7 := rfl

set_option maxHeartbeats 1000000 in
theorem named02_any (fp lp : Option Addr) (fc lc : Nat) (A : Alpha) (s : ByteArray) (w : World) (hA : AlphaAt w fp lp A) :
    Calls Tryd.prog 59 #[.agg #[.slice fp A.feats.length fc, .slice lp A.lets.length lc], .string s] w fun e w' => e = .returned (.int .i64 (namedI A s)) ∧ Ext w w' := by
  have hb := hA.fbig
  go_enter Tryd.func59, Tryd.ntmps59
  go_wp2
  go_loop [5] (fun i => ∃ k : Nat, k ≤ A.feats.length ∧ Hid (∀ j, j < k → A.ft j ≠ s) ∧ i = .int .i64 k) (fun i => A.feats.length - (intOf i).toNat)
  case atStart => exact ⟨0, Nat.zero_le _, fun j hj => by omega, rfl⟩
  case round =>
    obtain ⟨k, hk, HN, rfl⟩ := hrel
    by_cases hlt : k < A.feats.length
    · obtain ⟨b, off, rfl, hbw, c0⟩ := hA.fcells hlt
      cases he : ((A.ft k).toList == s.toList)
      · go_wp2
        refine ⟨⟨k + 1, by omega, upto_succ HN.out (fun e => bytes_ne_iff.1 he e), by go_num⟩, by simp [intOf]; omega⟩
      · go_wp2
        go_ret
        exact ⟨ret_int (namedI_at hlt HN.out (bytes_eq_iff.1 he)).symm, (Ext.refl _).alloc _⟩
    · go_wp2
      go_ret
      exact ⟨ret_int (namedI_none fun j hj => HN.out j (by omega)).symm, (Ext.refl _).alloc _⟩

set_option maxHeartbeats 1000000 in
theorem Bit02_any (fp lp : Option Addr) (fc lc : Nat) (A : Alpha) (s : ByteArray) (w : World) (hA : AlphaAt w fp lp A) :
    Calls Tryd.prog 35 #[.agg #[.slice fp A.feats.length fc, .slice lp A.lets.length lc], .string s] w fun e w' => e = .returned (.tuple #[.int .u32 (bitV A s : Nat), .int .i64 (bitE A s)]) ∧ Ext w w' := by
  have hx3 : Ext w (w.alloc (.cells #[.slice fp A.feats.length fc, .slice lp A.lets.length lc] 26)) := (Ext.refl _).alloc _
  have HK := asked_any fp lp none fc lc 0 A [] _ (hA.mono hx3) (RunesAt.nil _)
  rw [asked_nil] at HK
  by_cases hok : A.Ok
  · rw [if_pos hok] at HK
    rcases namedI_cases A s with ⟨k, hk, hn, _⟩ | hn
    · have h24 : k < 24 := by have := hok.1; omega
      have hE : bitE A s = 0 := by unfold bitE; rw [if_pos hok, if_pos (by omega)]
      have hV : bitV A s = 2 ^ k := by unfold bitV; rw [if_pos hE, hn]; rfl
      rw [hE, hV]
      have HW := Lib.hid (bit_wrap h24)
      go_enter Tryd.func35, Tryd.ntmps35
      go_wp2_with (first | (go_at_call 46; refine HK.mono ?_; rintro e w1 ⟨rfl, hx1⟩; have hs1 := hx1.lt0; have d0 := hx1.cell0 0; have d1 := hx1.cell0 1; simp at d0 d1) | (go_at_call 59; refine (named02_any _ _ _ _ _ _ _ (hA.mono (hx3.trans hx1))).mono ?_; rw [hn]; rintro e w2 ⟨rfl, hx2⟩))
      go_ret2
      exact ⟨by rw [← HW.out]; first | rfl | exact true, (hx3.trans hx1).trans hx2⟩
    · have hE : bitE A s = 8 := by unfold bitE; rw [if_pos hok, if_neg (by omega)]
      have hV : bitV A s = 0 := by unfold bitV; rw [if_neg (by omega)]
      rw [hE, hV]
      go_enter Tryd.func35, Tryd.ntmps35
      go_wp2_with (first | (go_at_call 46; refine HK.mono ?_; rintro e w1 ⟨rfl, hx1⟩; have hs1 := hx1.lt0; have d0 := hx1.cell0 0; have d1 := hx1.cell0 1; simp at d0 d1) | (go_at_call 59; refine (named02_any _ _ _ _ _ _ _ (hA.mono (hx3.trans hx1))).mono ?_; rw [hn]; rintro e w2 ⟨rfl, hx2⟩))
      go_ret2
      exact ⟨rfl, (hx3.trans hx1).trans hx2⟩
  · rw [if_neg hok] at HK
    have hE : bitE A s = 7 := by unfold bitE; rw [if_neg hok]
    have hV : bitV A s = 0 := by unfold bitV; rw [if_neg (by omega)]
    rw [hE, hV]
    go_enter Tryd.func35, Tryd.ntmps35
    go_wp2_with (first | (go_at_call 46; refine HK.mono ?_; rintro e w1 ⟨rfl, hx1⟩))
    go_ret2
    exact ⟨rfl, hx3.trans hx1⟩
end Go.Proofs.YtppbjeipfopehaaDoor
