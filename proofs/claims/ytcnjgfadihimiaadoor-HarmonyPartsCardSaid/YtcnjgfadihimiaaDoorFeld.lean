/- Contracts of the reference: Nearest, Near. -/
import Derived.Test.YtcnjgfadihimiaaDoorFelc
namespace Go.Proofs.YtcnjgfadihimiaaDoor
open Go.RowKit Go.Cg Go.Shelf Go.Maps

theorem want24 {l : Letter} {p m : Nat} (h1 : l.plus < 16777216) (h2 : l.minus < 16777216) (hp : p < 16777216) (hm : m < 16777216) : wantP l p m < 16777216 ∧ wantM l p m < 16777216 := by
  unfold wantP wantM
  exact ⟨Nat.or_lt_two_pow (n := 24) (Nat.lt_of_le_of_lt Nat.and_le_left h1) hp, Nat.or_lt_two_pow (n := 24) (Nat.lt_of_le_of_lt Nat.and_le_left h2) hm⟩

set_option maxRecDepth 100000 in
set_option maxHeartbeats 1000000 in
theorem Nearest02_any (fp lp : Option Addr) (fc lc : Nat) (A : Alpha) (l : Letter) (hl : l.wf) (p m : Nat) (hp : p < 4294967296) (hm : m < 4294967296) (w : World) (hA : AlphaAt w fp lp A) (hn : 0 < A.lets.length)
    (h24 : ∀ i, i < A.lets.length → unlikeN (A.at_ i).plus (A.at_ i).minus (wantP l p m) (wantM l p m) = pop 24 (((A.at_ i).plus ^^^ wantP l p m) ||| ((A.at_ i).minus ^^^ wantM l p m))) :
    Calls Tryd.prog 60 #[.agg #[.slice fp A.feats.length fc, .slice lp A.lets.length lc], .agg #[.int .i32 l.rune, .int .u32 (l.plus : Int), .int .u32 (l.minus : Int)], .int .u32 p, .int .u32 m] w fun e w' => e = .returned (.int .i32 (A.at_ (nearIdx A (wantP l p m) (wantM l p m))).rune) ∧ Ext w w' := by
  have hb := hA.lbig
  have E1 := Lib.hid (wantP_bits l hl hp hm)
  have E2 := Lib.hid (wantM_bits l hl hp hm)
  have hwl := want_lt l hl hp hm
  unfold nearIdx
  generalize hg : (fun i => unlikeN (A.at_ i).plus (A.at_ i).minus (wantP l p m) (wantM l p m)) = g
  have H24 := Lib.hid (fun i (hi : i < A.lets.length) => (congrFun hg i).symm.trans (h24 i hi))
  clear h24 hg
  generalize wantP l p m = wp at *
  generalize wantM l p m = wm at *
  go_enter Tryd.func60, Tryd.ntmps60
  go_wp2_with fail
  go_loopw [10, 11] (fun be i wr => ∃ k : Nat, 1 ≤ k ∧ k ≤ A.lets.length ∧ be = .int .i64 (bestIdx g (k - 1) : Nat) ∧ i = .int .i64 k ∧ Ext (w.alloc (.cells #[.slice fp A.feats.length fc, .slice lp A.lets.length lc] 26)) wr ∧ wr.heap[w.heap.size + 1 + 1]? = some (.cells #[.int .i32 0, .int .u32 (wp : Int), .int .u32 (wm : Int)] 52 (0, 0))) (fun _ i _ => A.lets.length - (intOf i).toNat)
  case atStart =>
    refine ⟨1, by omega, by omega, rfl, rfl, ((Ext.refl _).alloc _).alloc _, ?_⟩
    rw [E1.out, E2.out]
    have := heap_alloc_new ((w.alloc (.cells #[.slice fp A.feats.length fc, .slice lp A.lets.length lc] 26)).alloc (.cells #[.int .i32 l.rune, .int .u32 (l.plus : Int), .int .u32 (l.minus : Int)] 52)) (.cells #[.int .i32 0, .int .u32 (wp : Int), .int .u32 (wm : Int)] 52)
    rw [size_alloc, size_alloc] at this; exact this
  case round =>
    obtain ⟨k, hk1, hk, rfl, rfl, hx, hm⟩ := hrel
    have hx0 := hx.box
    have d0 := hx.cell0 0
    have d1 := hx.cell0 1
    simp at d0 d1
    have hlw := hx.lt0
    have hlm := (Array.getElem?_eq_some_iff.1 hm).1
    have hbl : bestIdx g (k - 1) < A.lets.length := by have := bestIdx_le g (k - 1); omega
    have hst : bestIdx g (k + 1 - 1) = if g k < g (bestIdx g (k - 1)) then k else bestIdx g (k - 1) := by
      obtain ⟨j, rfl⟩ : ∃ j, k = j + 1 := ⟨k - 1, by omega⟩
      rfl
    generalize hbe : bestIdx g (k - 1) = be at *
    obtain ⟨b, off, rfl, hbw⟩ := hA.lsome hn
    obtain ⟨hb3, m0, m1, m2⟩ := (hA.mono hx0).lcell hbl
    by_cases hlt : k < A.lets.length
    · have n0 : wr.cell? ⟨w.heap.size + 1 + 1, 0, none⟩ = some (.int .i32 0) := by rw [Lib.cell_of_heap hm]; rfl
      have n1 : wr.cell? ⟨w.heap.size + 1 + 1, 1, none⟩ = some (.int .u32 (wp : Int)) := by rw [Lib.cell_of_heap hm]; rfl
      have n2 : wr.cell? ⟨w.heap.size + 1 + 1, 2, none⟩ = some (.int .u32 (wm : Int)) := by rw [Lib.cell_of_heap hm]; rfl
      obtain ⟨hb2, q0, q1, q2⟩ := (hA.mono hx0).lcell hlt
      obtain ⟨_, _, wf3, wf4⟩ := hA.wf k hlt
      obtain ⟨_, _, wf5, wf6⟩ := hA.wf be hbl
      obtain ⟨hw1, hw2⟩ := hwl
      have eK := H24.out k hlt
      have eB := H24.out be hbl
      have HU := Lib.hid (fun (W : World) (j : Nat) (hj : j < A.lets.length) (h3 : (A.at_ j).plus < 4294967296) (h4 : (A.at_ j).minus < 4294967296) => by have := Unlike_any (A.at_ j).rune 0 (A.at_ j).plus (A.at_ j).minus wp wm h3 h4 hw1 hw2 W; rw [← H24.out j hj] at this; exact this)
      clear eK eB
      go_wp2_with fail
      by_cases hless : g k < g be
      · rw [if_pos hless] at hst
        have hd : decide ((g k : Int) < (g be : Int)) = true := by simp; omega
        (refine wp_region_ext (by kernel_rfl) (by kernel_rfl) ?_; intro ι hι g hg; have q_d0 := hg.cell d0; have q_d1 := hg.cell d1; have q_q0 := hg.cell q0; have q_q1 := hg.cell q1; have q_q2 := hg.cell q2; have q_m0 := hg.cell m0; have q_m1 := hg.cell m1; have q_m2 := hg.cell m2; have q_n0 := hg.cell n0; have q_n1 := hg.cell n1; have q_n2 := hg.cell n2; clear d0 d1 q0 q1 q2 m0 m1 m2 n0 n1 n2; (repeat (go_big_quiet_step ((go_at_call 70; exact hg.call (HU.out _ _ (by assumption) (by assumption) (by assumption)))))); refine wpQuiet_nil ?_; rintro w2 ⟨i2, rfl⟩; have hq := hg.ext i2; generalize g i2 = w2 at hq ⊢; clear q_d0 q_d1 q_q0 q_q1 q_q2 q_m0 q_m1 q_m2 q_n0 q_n1 q_n2 i2 hg g hι ι)
        go_wp2_with fail
        exact ⟨⟨k + 1, by omega, by omega, by rw [hst], by go_num, hx.trans hq, (Below.block hq _ hlm).trans hm⟩, by simp [intOf]; omega⟩
      · rw [if_neg hless] at hst
        have hd : decide ((g k : Int) < (g be : Int)) = false := by simp; omega
        (refine wp_region_ext (by kernel_rfl) (by kernel_rfl) ?_; intro ι hι g hg; have q_d0 := hg.cell d0; have q_d1 := hg.cell d1; have q_q0 := hg.cell q0; have q_q1 := hg.cell q1; have q_q2 := hg.cell q2; have q_m0 := hg.cell m0; have q_m1 := hg.cell m1; have q_m2 := hg.cell m2; have q_n0 := hg.cell n0; have q_n1 := hg.cell n1; have q_n2 := hg.cell n2; clear d0 d1 q0 q1 q2 m0 m1 m2 n0 n1 n2; (repeat (go_big_quiet_step ((go_at_call 70; exact hg.call (HU.out _ _ (by assumption) (by assumption) (by assumption)))))); refine wpQuiet_nil ?_; rintro w2 ⟨i2, rfl⟩; have hq := hg.ext i2; generalize g i2 = w2 at hq ⊢; clear q_d0 q_d1 q_q0 q_q1 q_q2 q_m0 q_m1 q_m2 q_n0 q_n1 q_n2 i2 hg g hι ι)
        go_wp2_with fail
        exact ⟨⟨k + 1, by omega, by omega, by rw [hst], by go_num, hx.trans hq, (Below.block hq _ hlm).trans hm⟩, by simp [intOf]; omega⟩
    · have hfin : bestIdx g (A.lets.length - 1) = be := by rw [show A.lets.length = k by omega]; exact hbe
      go_wp2_with fail
      go_ret
      exact ⟨by rw [hfin]; rfl, hx0⟩