/- Contracts: the reference's asked. -/
import Derived.Test.YtobajknhnjceiaaDoorFeatf
import Derived.Test.YtobajknhnjceiaaDoorRegx
namespace Go.Proofs.YtobajknhnjceiaaDoor
open Go.RowKit Go.Cg Go.Shelf Go.Maps

set_option maxHeartbeats 400000 in
theorem asked_any (fp lp rp : Option Addr) (fc lc rc : Nat) (A : Alpha) (l : List Int) (w : World) (hA : AlphaAt w fp lp A) (hR : RunesAt w rp l) :
    Calls Tryd.prog 106 #[.agg #[.slice fp A.feats.length fc, .slice lp A.lets.length lc], .slice rp l.length rc] w fun e w' => e = .returned (.int .i64 (askedN A l)) ∧ Ext w w' := by
  have hb := hA.lbig
  have hrb := hR.big
  have hx3 : Ext w (w.alloc (.cells #[.slice fp A.feats.length fc, .slice lp A.lets.length lc] 25)) := (Ext.refl _).alloc _
  by_cases hok : A.Ok
  · have hC := checkN_ok hok
    go_enter Tryd.func106, Tryd.ntmps106
    go_wp2_with (first | (go_at_call 52; refine (Check_any _ _ _ _ _ _ (hA.mono hx3)).mono ?_; rintro e w1 ⟨rfl, hx1⟩))
    go_loopw [5] (fun i wr => ∃ k : Nat, k ≤ l.length ∧ Hid (∀ j, j < k → 0 ≤ findLetter A (rn l j)) ∧ i = .int .i64 k ∧ Ext (w.alloc (.cells #[.slice fp A.feats.length fc, .slice lp A.lets.length lc] 25)) wr) (fun i _ => l.length - (intOf i).toNat)
    case atStart => exact ⟨0, Nat.zero_le _, fun j hj => by omega, rfl, hx1⟩
    case round =>
      clear hx1
      obtain ⟨k, hk, HN, rfl, hx⟩ := hrel
      have hx0 := hx.box
      have hAr := hA.mono hx0
      have d0 : wr.cell? ⟨w.heap.size, 0, none⟩ = some (.slice fp A.feats.length fc) := by simpa using hx.cell0 0
      have d1 : wr.cell? ⟨w.heap.size, 1, none⟩ = some (.slice lp A.lets.length lc) := by simpa using hx.cell0 1
      by_cases hlt : k < l.length
      · obtain ⟨b, off, rfl, hbw, c0⟩ := (hR.mono hx0).cells hlt
        go_wp2_with fail
        have hAW := hA.mono hx0
        by_cases hf : 0 ≤ findLetter A (rn l k)
        · have hd : decide (findLetter A (rn l k) < 0) = false := by simp; omega
          (refine wp_region_ext (by kernel_rfl) (by kernel_rfl) ?_; intro ι hι g hg; have q_d0 := hg.cell d0; have q_d1 := hg.cell d1; have q_c0 := hg.cell c0; clear d0 d1 c0; (repeat (go_big_quiet_step ((go_at_call 79; exact hg.call (Find_any _ _ _ _ _ _ _ (hAW.mono (hg.ext _))))))); refine wpQuiet_nil ?_; rintro w2 ⟨i2, rfl⟩; have hq := hg.ext i2; generalize g i2 = w2 at hq ⊢; clear q_d0 q_d1 q_c0 i2 hg g hι ι)
          go_wp2_with fail
          refine ⟨⟨k + 1, by omega, upto_succ HN.out hf, by go_num, hx.trans hq⟩, by simp [intOf]; omega⟩
        · have hd : decide (findLetter A (rn l k) < 0) = true := by simp; omega
          (refine wp_region_ext (by kernel_rfl) (by kernel_rfl) ?_; intro ι hι g hg; have q_d0 := hg.cell d0; have q_d1 := hg.cell d1; have q_c0 := hg.cell c0; clear d0 d1 c0; (repeat (go_big_quiet_step ((go_at_call 79; exact hg.call (Find_any _ _ _ _ _ _ _ (hAW.mono (hg.ext _))))))); refine wpQuiet_nil ?_; rintro w2 ⟨i2, rfl⟩; have hq := hg.ext i2; generalize g i2 = w2 at hq ⊢; clear q_d0 q_d1 q_c0 i2 hg g hι ι)
          go_wp2_with fail
          go_ret
          exact ⟨ret_int (by unfold askedN; rw [if_pos hok, if_neg fun h => by have := h k hlt; omega]), hx0.trans hq⟩
      · go_wp2_with fail
        go_ret
        exact ⟨ret_int (by unfold askedN; rw [if_pos hok, if_pos fun i hi => HN.out i (by omega)]), hx0⟩
  · have hC := checkN_bad hok
    go_enter Tryd.func106, Tryd.ntmps106
    go_wp2_with (first | (go_at_call 52; refine (Check_any _ _ _ _ _ _ (hA.mono hx3)).mono ?_; rintro e w1 ⟨rfl, hx1⟩))
    go_ret
    exact ⟨ret_int (by unfold askedN; rw [if_neg hok]), hx1.box⟩

end Go.Proofs.YtobajknhnjceiaaDoor
