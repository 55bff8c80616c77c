/- Contracts: squares: slices.Equal over runes, double.twice, the reference's square. -/
import Derived.Test.YtcnhlogkhnoacaaGreatDoorWordc
import Derived.Test.YtcnhlogkhnoacaaGreatDoorDoubz
namespace Go.Proofs.YtcnhlogkhnoacaaGreatDoor
open Go.RowKit Go.Cg Go.Shelf Go.Maps

theorem list_ne_of {a b : List Int} {k : Nat} (h : rn a k ≠ rn b k) : a ≠ b := fun e => h (by rw [e])
theorem list_eq_of {a b : List Int} (hl : a.length = b.length) (h : ∀ j, j < a.length → rn a j = rn b j) : a = b := by
  apply List.ext_getElem hl
  intro i h1 h2
  have := h i h1
  rwa [rn_eq h1, rn_eq h2] at this

set_option maxHeartbeats 1000000 in
theorem Equal_any (ap bp : Option Addr) (ac bc : Nat) (a b : List Int) (w : World) (ha : RunesAt w ap a) (hb : RunesAt w bp b) :
    Calls Tryz.prog 117 #[.slice ap a.length ac, .slice bp b.length bc] w fun e w' => e = .returned (.bool (decide (a = b))) ∧ Ext w w' := by
  have hab := ha.big
  by_cases hl : a.length = b.length
  · have hl' : ((a.length : Int) != b.length) = false := by rw [hl]; simp
    go_enter Tryz.func117, Tryz.ntmps117
    go_wp2_with fail
    go_loopw [13] (fun i wr => ∃ k : Nat, k ≤ a.length ∧ Hid (∀ j, j < k → rn a j = rn b j) ∧ i = .int .i64 k ∧ Ext w wr) (fun i _ => a.length - (intOf i).toNat)
    case atStart => exact ⟨0, Nat.zero_le _, fun j hj => by omega, rfl, Ext.refl _⟩
    case round =>
      obtain ⟨k, hk, HN, rfl, hx⟩ := hrel
      by_cases hlt : k < a.length
      · obtain ⟨b1, o1, rfl, hb1, c0⟩ := (ha.mono hx).cells hlt
        obtain ⟨b2, o2, rfl, hb2, d0⟩ := (hb.mono hx).cells (show k < b.length by omega)
        go_wp2_with fail
        cases he : (rn a k != rn b k)
        · (refine wp_region_ext (by kernel_rfl) (by kernel_rfl) ?_; intro ι hι g hg; have q_c0 := hg.cell c0; have q_d0 := hg.cell d0; clear c0 d0; (repeat (go_big_quiet_step (fail))); refine wpQuiet_nil ?_; rintro w2 ⟨i2, rfl⟩; have hq := hg.ext i2; generalize g i2 = w2 at hq ⊢; clear q_c0 q_d0 i2 hg g hι ι)
          go_wp2_with fail
          refine ⟨⟨k + 1, by omega, upto_succ HN.out (by simpa using he), by go_num, hx.trans hq⟩, by simp [intOf]; omega⟩
        · (refine wp_region_ext (by kernel_rfl) (by kernel_rfl) ?_; intro ι hι g hg; have q_c0 := hg.cell c0; have q_d0 := hg.cell d0; clear c0 d0; (repeat (go_big_quiet_step (fail))); refine wpQuiet_nil ?_; rintro w2 ⟨i2, rfl⟩; have hq := hg.ext i2; generalize g i2 = w2 at hq ⊢; clear q_c0 q_d0 i2 hg g hι ι)
          go_wp2_with fail
          go_ret
          exact ⟨ret_bool (decide_eq_false (list_ne_of (by simpa using he))).symm, hx.trans hq⟩
      · go_wp2_with fail
        go_ret
        exact ⟨ret_bool (decide_eq_true (list_eq_of hl fun j hj => HN.out j (by omega))).symm, hx⟩
  · have hl' : ((a.length : Int) != b.length) = true := by rw [bne_iff_ne]; omega
    go_enter Tryz.func117, Tryz.ntmps117
    go_wp2_with fail
    go_ret
    exact ⟨ret_bool (decide_eq_false fun e => hl (by rw [e])).symm, Ext.refl _⟩

theorem sq_even {l : List Int} (h : l.length % 2 = 0) : sq l = decide (l.take (l.length / 2) = cutL l (l.length / 2) l.length) := by
  have e : cutL l (l.length / 2) l.length = l.drop (l.length / 2) := by
    unfold cutL; exact List.take_of_length_le (by rw [List.length_drop]; omega)
  rw [e]
  unfold sq
  simp [h]

set_option maxHeartbeats 1000000 in
theorem twice_any (b off c : Nat) (l : List Int) (w : World) (h : RunesAt w (some ⟨b, off, none⟩) l) (h0 : 0 < l.length) (hc : l.length ≤ c) :
    Calls Tryz.prog 80 #[.slice (some ⟨b, off, none⟩) l.length c] w fun e w' => e = .returned (.bool (sq l)) ∧ Ext w w' := by
  have hbig := h.big
  by_cases hev : l.length % 2 = 0
  · have hcon : ∀ W, Ext w W → Calls Tryz.prog 117 #[.slice (some ⟨b, off, none⟩) (l.length / 2) c, .slice (some ⟨b, off + l.length / 2, none⟩) (l.length - l.length / 2) (c - l.length / 2)] W fun e w' => e = .returned (.bool (sq l)) ∧ Ext W w' := by
      intro W hW
      have h1 := (h.take (l.length / 2)).mono hW
      have h2 := (h.cut (l.length / 2) l.length (Nat.le_refl _)).mono hW
      have := Equal_any _ _ c (c - l.length / 2) _ _ W h1 h2
      rw [List.length_take, Nat.min_eq_left (by omega), cutL_length _ _ _ (Nat.le_refl _), ← sq_even hev] at this
      exact this
    have HC := Lib.hid hcon
    clear hcon
    go_enter Tryz.func80, Tryz.ntmps80
    go_wp2_with fail
    have hm : ((l.length : Int) % 2 == 0) = true := by simp; omega
    (refine wp_region_ext (by kernel_rfl) (by kernel_rfl) ?_; intro ι hι g hg; (repeat (go_big_quiet_step ((go_at_call 117; exact hg.call (HC.out _ (hg.ext _)))))); refine wpQuiet_nil ?_; rintro w2 ⟨i2, rfl⟩; have hq := hg.ext i2; generalize g i2 = w2 at hq ⊢; clear  i2 hg g hι ι)
    go_wp2_with fail
    go_ret
    exact ⟨rfl, hq⟩
  · have hs := sq_odd hev
    rw [hs]
    go_enter Tryz.func80, Tryz.ntmps80
    go_wp2_with fail
    have hm : ((l.length : Int) % 2 == 0) = false := by simp; omega
    (refine wp_region_ext (by kernel_rfl) (by kernel_rfl) ?_; intro ι hι g hg; (repeat (go_big_quiet_step (fail))); refine wpQuiet_nil ?_; rintro w2 ⟨i2, rfl⟩; have hq := hg.ext i2; generalize g i2 = w2 at hq ⊢; clear  i2 hg g hι ι)
    go_wp2_with fail
    go_ret
    exact ⟨rfl, hq⟩

end Go.Proofs.YtcnhlogkhnoacaaGreatDoor
