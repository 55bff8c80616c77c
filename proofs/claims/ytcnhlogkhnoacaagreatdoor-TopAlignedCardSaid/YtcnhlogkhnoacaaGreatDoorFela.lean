/- Contracts: slices.MinFunc over letters, feature.Near, feature.Least, slices.Index over texts, feature.Bit. -/
import Derived.Test.YtcnhlogkhnoacaaGreatDoorFeati
import Derived.Test.YtcnhlogkhnoacaaGreatDoorSpez
import Derived.Test.YtcnhlogkhnoacaaGreatDoorFelz
namespace Go.Proofs.YtcnhlogkhnoacaaGreatDoor
open Go.RowKit Go.Cg Go.Shelf Go.Maps

/-- a row of three cells, all stored anew -/
theorem three_set {w : World} {b : Nat} {a0 a1 a2 v0 v1 v2 : Value} {T : TypeId} (h : w.heap[b]? = some (.cells #[a0, a1, a2] T (0, 0))) : (((w.setCell ⟨b, 0, none⟩ v0).setCell ⟨b, 1, none⟩ v1).setCell ⟨b, 2, none⟩ v2).heap[b]? = some (.cells #[v0, v1, v2] T (0, 0)) := by
  have h1 := heap_setCell_same w b 0 _ _ v0 h
  have h2 := heap_setCell_same _ b 1 _ _ v1 h1
  exact heap_setCell_same _ b 2 _ _ v2 h2

set_option maxRecDepth 100000 in
set_option maxHeartbeats 1000000 in
theorem MinFunc_letters (fp lp : Option Addr) (lc : Nat) (A : Alpha) (f : FuncId) (cap : Array Value) (g : Nat → Nat) (w : World) (hA : AlphaAt w fp lp A) (hn : 0 < A.lets.length) (hg32 : ∀ i, g i ≤ 32)
    (eg : ∀ args W, (callFunc f args).run Tryz.prog W = .ok (.enter f args) W)
    (hf : ∀ i j, i < A.lets.length → j < A.lets.length → ∀ W, Ext w W → Calls Tryz.prog f (#[.agg #[.int .i32 (A.at_ i).rune, .int .u32 ((A.at_ i).plus : Int), .int .u32 ((A.at_ i).minus : Int)], .agg #[.int .i32 (A.at_ j).rune, .int .u32 ((A.at_ j).plus : Int), .int .u32 ((A.at_ j).minus : Int)]] ++ cap) W fun e W' => e = .returned (.int .i64 ((g i : Int) - (g j : Int))) ∧ Ext W W') :
    Calls Tryz.prog 162 #[.slice lp A.lets.length lc, .func (.func f) #[] cap] w fun e w' => e = .returned (.agg #[.int .i32 (A.at_ (bestIdx g (A.lets.length - 1))).rune, .int .u32 ((A.at_ (bestIdx g (A.lets.length - 1))).plus : Int), .int .u32 ((A.at_ (bestIdx g (A.lets.length - 1))).minus : Int)]) ∧ Ext w w' := by
  have hb := hA.lbig
  have HF := Lib.hid hf
  clear hf
  obtain ⟨b, off, rfl, hbw, c0, c1, c2⟩ := hA.cells hn
  simp only [Nat.zero_mul, Nat.add_zero] at c0 c1 c2
  go_enter Tryz.func162, Tryz.ntmps162
  go_wp2_with fail
  go_loopw [6] (fun i wr => ∃ k : Nat, 1 ≤ k ∧ k ≤ A.lets.length ∧ i = .int .i64 k ∧ Ext (w.alloc (.cells #[.int .i32 0, .int .u32 0, .int .u32 0] 114)) wr ∧ wr.heap[w.heap.size + 1]? = some (.cells #[.int .i32 (A.at_ (bestIdx g (k - 1))).rune, .int .u32 ((A.at_ (bestIdx g (k - 1))).plus : Int), .int .u32 ((A.at_ (bestIdx g (k - 1))).minus : Int)] 114 (0, 0))) (fun i _ => A.lets.length - (intOf i).toNat)
  case atStart =>
    refine ⟨1, by omega, by omega, rfl, (Ext.refl _).alloc _, ?_⟩
    have := heap_alloc_new (w.alloc (.cells #[.int .i32 0, .int .u32 0, .int .u32 0] 114)) (.cells #[.int .i32 (A.at_ 0).rune, .int .u32 ((A.at_ 0).plus : Int), .int .u32 ((A.at_ 0).minus : Int)] 114)
    rw [size_alloc] at this; exact this
  case round =>
    obtain ⟨k, hk1, hk, rfl, hx, hm⟩ := hrel
    have hx0 := hx.box
    have hbl : bestIdx g (k - 1) < A.lets.length := by have := bestIdx_le g (k - 1); omega
    have hlm : w.heap.size + 1 < wr.heap.size := (Array.getElem?_eq_some_iff.1 hm).1
    have hst : bestIdx g (k + 1 - 1) = if g k < g (bestIdx g (k - 1)) then k else bestIdx g (k - 1) := by
      obtain ⟨j, rfl⟩ : ∃ j, k = j + 1 := ⟨k - 1, by omega⟩
      rfl
    generalize hbe : bestIdx g (k - 1) = be at hm hbl hst
    have m0 : wr.cell? ⟨w.heap.size + 1, 0, none⟩ = some (.int .i32 (A.at_ be).rune) := by rw [Lib.cell_of_heap hm]; rfl
    have m1 : wr.cell? ⟨w.heap.size + 1, 1, none⟩ = some (.int .u32 ((A.at_ be).plus : Int)) := by rw [Lib.cell_of_heap hm]; rfl
    have m2 : wr.cell? ⟨w.heap.size + 1, 2, none⟩ = some (.int .u32 ((A.at_ be).minus : Int)) := by rw [Lib.cell_of_heap hm]; rfl
    by_cases hlt : k < A.lets.length
    · obtain ⟨hb2, q0, q1, q2⟩ := (hA.mono hx0).lcell hlt
      have hgk := hg32 k
      have hgb := hg32 be
      by_cases hless : g k < g be
      · rw [if_pos hless] at hst
        go_wp2_with fail
        have hd : decide ((g k : Int) - (g be : Int) < 0) = true := by simp; omega
        (refine wp_region_ext (by kernel_rfl) (by kernel_rfl) ?_; intro ι hι g hg; have q_q0 := hg.cell q0; have q_q1 := hg.cell q1; have q_q2 := hg.cell q2; have q_m0 := hg.cell m0; have q_m1 := hg.cell m1; have q_m2 := hg.cell m2; clear q0 q1 q2 m0 m1 m2; (repeat (go_big_quiet_step ((exact hg.call (HF.out k be hlt hbl _ (hx0.trans (hg.ext _))))))); refine wpQuiet_nil ?_; rintro w2 ⟨i2, rfl⟩; have hq := hg.ext i2; generalize g i2 = w2 at hq ⊢; clear q_q0 q_q1 q_q2 q_m0 q_m1 q_m2 i2 hg g hι ι)
        obtain ⟨hb3, r0, r1, r2⟩ := (hA.mono (hx0.trans hq)).lcell hlt
        have hm2 := (Below.block hq _ hlm).trans hm
        have n0 : w2.cell? ⟨w.heap.size + 1, 0, none⟩ = some (.int .i32 (A.at_ be).rune) := by rw [Lib.cell_of_heap hm2]; rfl
        have n1 : w2.cell? ⟨w.heap.size + 1, 1, none⟩ = some (.int .u32 ((A.at_ be).plus : Int)) := by rw [Lib.cell_of_heap hm2]; rfl
        have n2 : w2.cell? ⟨w.heap.size + 1, 2, none⟩ = some (.int .u32 ((A.at_ be).minus : Int)) := by rw [Lib.cell_of_heap hm2]; rfl
        have f0 := Lib.frozen_of_heap hm2 0
        have f1 := Lib.frozen_of_heap hm2 1
        have f2 := Lib.frozen_of_heap hm2 2
        go_wp2_with fail
        refine ⟨⟨k + 1, by omega, by omega, by go_num, ?_, ?_⟩, by simp [intOf]; omega⟩
        · exact (((hx.trans hq).setCell (p := ⟨w.heap.size + 1, 0, none⟩) (by simp) _).setCell (p := ⟨w.heap.size + 1, 1, none⟩) (by simp) _).setCell (p := ⟨w.heap.size + 1, 2, none⟩) (by simp) _
        · rw [hst]; exact three_set hm2
      · rw [if_neg hless] at hst
        go_wp2_with fail
        have hd : decide ((g k : Int) - (g be : Int) < 0) = false := by simp; omega
        (refine wp_region_ext (by kernel_rfl) (by kernel_rfl) ?_; intro ι hι g hg; have q_q0 := hg.cell q0; have q_q1 := hg.cell q1; have q_q2 := hg.cell q2; have q_m0 := hg.cell m0; have q_m1 := hg.cell m1; have q_m2 := hg.cell m2; clear q0 q1 q2 m0 m1 m2; (repeat (go_big_quiet_step ((exact hg.call (HF.out k be hlt hbl _ (hx0.trans (hg.ext _))))))); refine wpQuiet_nil ?_; rintro w2 ⟨i2, rfl⟩; have hq := hg.ext i2; generalize g i2 = w2 at hq ⊢; clear q_q0 q_q1 q_q2 q_m0 q_m1 q_m2 i2 hg g hι ι)
        go_wp2_with fail
        refine ⟨⟨k + 1, by omega, by omega, by go_num, hx.trans hq, ?_⟩, by simp [intOf]; omega⟩
        rw [hst]; exact (Below.block hq _ hlm).trans hm
    · have e : k = A.lets.length := by omega
      have hfin : bestIdx g (A.lets.length - 1) = be := by rw [← e]; exact hbe
      have hb0 : wr.heap[w.heap.size]? = some (.cells #[.int .i32 0, .int .u32 0, .int .u32 0] 114 (0, 0)) := (Below.block hx w.heap.size (by simp)).trans (heap_alloc_new _ _)
      have f0 := Lib.frozen_of_heap hb0 0
      have f1 := Lib.frozen_of_heap hb0 1
      have f2 := Lib.frozen_of_heap hb0 2
      have g0 : wr.cell? ⟨w.heap.size, 0, none⟩ = some (.int .i32 0) := by rw [Lib.cell_of_heap hb0]; rfl
      have g1 : wr.cell? ⟨w.heap.size, 1, none⟩ = some (.int .u32 0) := by rw [Lib.cell_of_heap hb0]; rfl
      have g2 : wr.cell? ⟨w.heap.size, 2, none⟩ = some (.int .u32 0) := by rw [Lib.cell_of_heap hb0]; rfl
      go_wp2_with fail
      rw [hfin]
      refine bodyPost_ret (results_cell_row rfl _ _ w.heap.size 114 #[.int .i32 (A.at_ be).rune, .int .u32 ((A.at_ be).plus : Int), .int .u32 ((A.at_ be).minus : Int)] (0, 0) _ rfl (three_set hb0) Tryz.underlying114 rfl (by kernel_rfl)) rfl ⟨rfl, ?_⟩
      exact ((hx0.setCell (p := ⟨w.heap.size, 0, none⟩) (by simp) _).setCell (p := ⟨w.heap.size, 1, none⟩) (by simp) _).setCell (p := ⟨w.heap.size, 2, none⟩) (by simp) _
set_option maxRecDepth 100000 in
set_option maxHeartbeats 1000000 in
theorem near1_any (A : Alpha) (i j : Nat) (hi : (A.at_ i).wf) (hj : (A.at_ j).wf) (r : Int) (wp wm : Nat) (hp : wp < 4294967296) (hm : wm < 4294967296) (B : Nat) (W : World)
    (c0 : W.cell? ⟨B, 0, none⟩ = some (.int .i32 r)) (c1 : W.cell? ⟨B, 1, none⟩ = some (.int .u32 (wp : Int))) (c2 : W.cell? ⟨B, 2, none⟩ = some (.int .u32 (wm : Int))) (hB : B < W.heap.size) :
    Calls Tryz.prog 163 #[.agg #[.int .i32 (A.at_ i).rune, .int .u32 ((A.at_ i).plus : Int), .int .u32 ((A.at_ i).minus : Int)], .agg #[.int .i32 (A.at_ j).rune, .int .u32 ((A.at_ j).plus : Int), .int .u32 ((A.at_ j).minus : Int)], .pointer (some ⟨B, 0, none⟩)] W fun e W' => e = .returned (.int .i64 ((unlikeN (A.at_ i).plus (A.at_ i).minus wp wm : Nat) - (unlikeN (A.at_ j).plus (A.at_ j).minus wp wm : Nat) : Int)) ∧ Ext W W' := by
  obtain ⟨_, _, i3, i4⟩ := hi
  obtain ⟨_, _, j3, j4⟩ := hj
  have hi32 := pop_le 32 (((A.at_ i).plus ^^^ wp) ||| ((A.at_ i).minus ^^^ wm))
  have hj32 := pop_le 32 (((A.at_ j).plus ^^^ wp) ||| ((A.at_ j).minus ^^^ wm))
  change unlikeN (A.at_ i).plus (A.at_ i).minus wp wm ≤ 32 at hi32
  change unlikeN (A.at_ j).plus (A.at_ j).minus wp wm ≤ 32 at hj32
  go_enter Tryz.func163, Tryz.ntmps163
  go_wp2_with fail
  have hxA : Ext W ((W.alloc (.cells #[.int .i32 (A.at_ i).rune, .int .u32 ((A.at_ i).plus : Int), .int .u32 ((A.at_ i).minus : Int)] 114)).alloc (.cells #[.int .i32 (A.at_ j).rune, .int .u32 ((A.at_ j).plus : Int), .int .u32 ((A.at_ j).minus : Int)] 114)) := ((Ext.refl _).alloc _).alloc _
  have hxB : Ext (W.alloc (.cells #[.int .i32 (A.at_ i).rune, .int .u32 ((A.at_ i).plus : Int), .int .u32 ((A.at_ i).minus : Int)] 114)) ((W.alloc (.cells #[.int .i32 (A.at_ i).rune, .int .u32 ((A.at_ i).plus : Int), .int .u32 ((A.at_ i).minus : Int)] 114)).alloc (.cells #[.int .i32 (A.at_ j).rune, .int .u32 ((A.at_ j).plus : Int), .int .u32 ((A.at_ j).minus : Int)] 114)) := (Ext.refl _).alloc _
  have hxC : Ext ((W.alloc (.cells #[.int .i32 (A.at_ i).rune, .int .u32 ((A.at_ i).plus : Int), .int .u32 ((A.at_ i).minus : Int)] 114)).alloc (.cells #[.int .i32 (A.at_ j).rune, .int .u32 ((A.at_ j).plus : Int), .int .u32 ((A.at_ j).minus : Int)] 114)) ((W.alloc (.cells #[.int .i32 (A.at_ i).rune, .int .u32 ((A.at_ i).plus : Int), .int .u32 ((A.at_ i).minus : Int)] 114)).alloc (.cells #[.int .i32 (A.at_ j).rune, .int .u32 ((A.at_ j).plus : Int), .int .u32 ((A.at_ j).minus : Int)] 114)) := Ext.refl _
  have y0 := hxC.cell0 0
  have y1 := hxC.cell0 1
  have y2 := hxC.cell0 2
  rw [size_alloc] at y0 y1 y2
  have x0 := hxB.cell0 0
  have x1 := hxB.cell0 1
  have x2 := hxB.cell0 2
  simp only [List.getElem?_toArray, List.getElem?_cons_zero, List.getElem?_cons_succ] at x0 x1 x2 y0 y1 y2
  have d0 := (hxA.facts.1 B 0 hB).trans c0
  have d1 := (hxA.facts.1 B 1 hB).trans c1
  have d2 := (hxA.facts.1 B 2 hB).trans c2
  clear hxB hxC
  generalize (W.alloc (.cells #[.int .i32 (A.at_ i).rune, .int .u32 ((A.at_ i).plus : Int), .int .u32 ((A.at_ i).minus : Int)] 114)).alloc (.cells #[.int .i32 (A.at_ j).rune, .int .u32 ((A.at_ j).plus : Int), .int .u32 ((A.at_ j).minus : Int)] 114) = W2 at *
  (refine wp_region_ext (by kernel_rfl) (by kernel_rfl) ?_; intro ι hι g hg; have q_x0 := hg.cell x0; have q_x1 := hg.cell x1; have q_x2 := hg.cell x2; have q_y0 := hg.cell y0; have q_y1 := hg.cell y1; have q_y2 := hg.cell y2; have q_d0 := hg.cell d0; have q_d1 := hg.cell d1; have q_d2 := hg.cell d2; clear x0 x1 x2 y0 y1 y2 d0 d1 d2; (repeat (go_big_quiet_step ((exact hg.call (unlike_any _ _ _ _ _ _ (by assumption) (by assumption) (by assumption) (by assumption) _))))); refine wpQuiet_nil ?_; rintro w2 ⟨i2, rfl⟩; have hq := hg.ext i2; generalize g i2 = w2 at hq ⊢; clear q_x0 q_x1 q_x2 q_y0 q_y1 q_y2 q_d0 q_d1 q_d2 i2 hg g hι ι)
  go_wp2_with fail
  go_ret
  exact ⟨rfl, hxA.trans hq⟩

theorem near2_any (fp lp : Option Addr) (lc : Nat) (A : Alpha) (r : Int) (wp wm : Nat) (hp : wp < 4294967296) (hm : wm < 4294967296) (B : Nat) (w W : World) (hA : AlphaAt w fp lp A) (hn : 0 < A.lets.length) (hx : Ext w W)
    (hb : W.heap[B]? = some (.cells #[.int .i32 r, .int .u32 (wp : Int), .int .u32 (wm : Int)] 114 (0, 0))) :
    Calls Tryz.prog 162 #[.slice lp A.lets.length lc, .func (.func 163) #[] #[.pointer (some ⟨B, 0, none⟩)]] W fun e w' => e = .returned (.agg #[.int .i32 (A.at_ (nearIdx A wp wm)).rune, .int .u32 ((A.at_ (nearIdx A wp wm)).plus : Int), .int .u32 ((A.at_ (nearIdx A wp wm)).minus : Int)]) ∧ Ext W w' := by
  have eg := @enters_of Tryz.prog 163 _ _ Tryz.func163 (by kernel_rfl) rfl
  have hB := (Array.getElem?_eq_some_iff.1 hb).1
  refine MinFunc_letters fp lp lc A _ _ (fun i => unlikeN (A.at_ i).plus (A.at_ i).minus wp wm) W (hA.mono hx) hn (fun i => pop_le _ _) eg fun i j hi hj W' hW' => ?_
  exact near1_any A i j (hA.wf i hi) (hA.wf j hj) r wp wm hp hm B W' ((hW'.facts.1 B 0 hB).trans (by rw [Lib.cell_of_heap hb]; rfl)) ((hW'.facts.1 B 1 hB).trans (by rw [Lib.cell_of_heap hb]; rfl)) ((hW'.facts.1 B 2 hB).trans (by rw [Lib.cell_of_heap hb]; rfl)) (Nat.lt_of_lt_of_le hB hW'.le)

theorem want_lt (l : Letter) (hl : l.wf) {p m : Nat} (hp : p < 4294967296) (hm : m < 4294967296) : wantP l p m < 4294967296 ∧ wantM l p m < 4294967296 := by
  obtain ⟨_, _, h3, h4⟩ := hl
  unfold wantP wantM
  exact ⟨Nat.or_lt_two_pow (n := 32) (Nat.lt_of_le_of_lt Nat.and_le_left h3) hp, Nat.or_lt_two_pow (n := 32) (Nat.lt_of_le_of_lt Nat.and_le_left h4) hm⟩
theorem wantP_bits (l : Letter) (hl : l.wf) {p m : Nat} (hp : p < 4294967296) (hm : m < 4294967296) : bits BinOp.or IntKind.u32 (bits BinOp.andNot IntKind.u32 (l.plus : Int) (m : Int)) (p : Int) = ((wantP l p m : Nat) : Int) := by
  obtain ⟨_, _, h3, h4⟩ := hl
  rw [u32_andNot_nat _ _ h3 hm, u32_or_nat _ _ (Nat.lt_of_le_of_lt Nat.and_le_left h3) hp]; rfl
theorem wantM_bits (l : Letter) (hl : l.wf) {p m : Nat} (hp : p < 4294967296) (hm : m < 4294967296) : bits BinOp.or IntKind.u32 (bits BinOp.andNot IntKind.u32 (l.minus : Int) (p : Int)) (m : Int) = ((wantM l p m : Nat) : Int) := by
  obtain ⟨_, _, h3, h4⟩ := hl
  rw [u32_andNot_nat _ _ h4 hp, u32_or_nat _ _ (Nat.lt_of_le_of_lt Nat.and_le_left h4) hm]; rfl
theorem near_cells {w : World} {B : Nat} {a0 a1 a2 v1 v2 v3 v4 u1 u2 : Value} {T : TypeId} (h : w.heap[B]? = some (.cells #[a0, a1, a2] T (0, 0))) (e3 : v3 = u1) (e4 : v4 = u2) :
    ((((w.setCell ⟨B, 1, none⟩ v1).setCell ⟨B, 2, none⟩ v2).setCell ⟨B, 1, none⟩ v3).setCell ⟨B, 2, none⟩ v4).heap[B]? = some (.cells #[a0, u1, u2] T (0, 0)) := by
  subst e3 e4
  have h1 := heap_setCell_same w B 1 _ _ v1 h
  have h2 := heap_setCell_same _ B 2 _ _ v2 h1
  have h3 := heap_setCell_same _ B 1 _ _ v3 h2
  exact heap_setCell_same _ B 2 _ _ v4 h3

set_option maxRecDepth 100000 in
set_option maxHeartbeats 1000000 in
theorem near_any (fp lp : Option Addr) (fc lc : Nat) (A : Alpha) (r : Int) (p m : Nat) (hp : p < 4294967296) (hm : m < 4294967296) (w : World) (hA : AlphaAt w fp lp A) :
    Calls Tryz.prog 131 #[.agg #[.slice fp A.feats.length fc, .slice lp A.lets.length lc], .int .i32 r, .int .u32 p, .int .u32 m] w fun e w' => e = .returned (.tuple #[.int .i32 (nearR A r p m), .int .i64 (hasE A r p m)]) ∧ Ext w w' := by
  have hx3 : Ext w (w.alloc (.cells #[.slice fp A.feats.length fc, .slice lp A.lets.length lc] 25)) := (Ext.refl _).alloc _
  have hwf := ofL_wf hA.wf r
  obtain ⟨_, _, wf3, wf4⟩ := ofL_wf hA.wf r
  have hfb := hA.fbig
  by_cases h0 : ofE A r = 0
  · cases hmay : mayB A.feats.length p m
    · have hE : hasE A r p m = 20 := by unfold hasE; rw [if_pos h0, hmay]; rfl
      have hN : nearR A r p m = 0 := by unfold nearR; rw [if_neg (by omega)]
      rw [hE, hN]
      go_enter Tryz.func131, Tryz.ntmps131
      go_wp2_with (first | (go_at_call 75; refine (of_any _ _ _ _ _ _ _ (hA.mono hx3)).mono ?_; rw [h0]; rintro e w1 ⟨rfl, hx1⟩; have hs1 := hx1.lt0; have d0 := hx1.cell0 0; have d1 := hx1.cell0 1; simp at d0 d1) | (go_at_call 65; refine (within_any _ _ _ _ _ _ hp hm hfb _).mono ?_; rintro e w2 ⟨rfl, hx2⟩))
      go_ret2
      exact ⟨rfl, ((hx3.trans hx1).alloc _).trans hx2⟩
    · have hE : hasE A r p m = 0 := by unfold hasE; rw [if_pos h0, hmay]; rfl
      have hn : 0 < A.lets.length := by
        rcases ofE_cases A r with ⟨_, h, _⟩ | ⟨h, _⟩ | ⟨h, _⟩
        · exact h.2.1
        · omega
        · omega
      have hN : nearR A r p m = (A.at_ (nearIdx A (wantP (ofL A r) p m) (wantM (ofL A r) p m))).rune := by unfold nearR; rw [if_pos hE]
      rw [hE, hN]
      go_enter Tryz.func131, Tryz.ntmps131
      go_wp2_with (first | (go_at_call 75; refine (of_any _ _ _ _ _ _ _ (hA.mono hx3)).mono ?_; rw [h0]; rintro e w1 ⟨rfl, hx1⟩; have hs1 := hx1.lt0; have d0 := hx1.cell0 0; have d1 := hx1.cell0 1; simp at d0 d1) | (go_at_call 65; refine (within_any _ _ _ _ _ _ hp hm hfb _).mono ?_; rintro e w2 ⟨rfl, hx2⟩; have g0 := hx2.cell0 0; have g1 := hx2.cell0 1; have g2 := hx2.cell0 2; simp at g0 g1 g2; have z0 := hx2.froz0 0; have z1 := hx2.froz0 1; have z2 := hx2.froz0 2; have e0 := (hx1.trans (((Ext.refl _).alloc _).trans hx2)).cell0 0; have e1 := (hx1.trans (((Ext.refl _).alloc _).trans hx2)).cell0 1; simp at e0 e1))
      have hm0 : w2.heap[w1.heap.size]? = some (.cells #[.int .i32 (ofL A r).rune, .int .u32 ((ofL A r).plus : Int), .int .u32 ((ofL A r).minus : Int)] 114 (0, 0)) := (Below.block hx2 w1.heap.size (by simp)).trans (heap_alloc_new _ _)
      have hx4 : Ext w w2 := ((hx3.trans hx1).alloc _).trans hx2
      have hle : w.heap.size ≤ w1.heap.size := Nat.le_of_lt hs1
      refine (near2_any fp lp lc A (ofL A r).rune (wantP (ofL A r) p m) (wantM (ofL A r) p m) (want_lt _ hwf hp hm).1 (want_lt _ hwf hp hm).2 w1.heap.size w _ hA hn
        ((((hx4.setCell (p := ⟨w1.heap.size, 1, none⟩) hle _).setCell (p := ⟨w1.heap.size, 2, none⟩) hle _).setCell (p := ⟨w1.heap.size, 1, none⟩) hle _).setCell (p := ⟨w1.heap.size, 2, none⟩) hle _)
        (near_cells hm0 (by rw [wantP_bits _ hwf hp hm]) (by rw [wantM_bits _ hwf hp hm]))).mono ?_
      rintro e w5 ⟨rfl, hx5⟩
      go_wp2_with fail
      go_ret2
      exact ⟨rfl, ((((((hx4.setCell (p := ⟨w1.heap.size, 1, none⟩) hle _).setCell (p := ⟨w1.heap.size, 2, none⟩) hle _).setCell (p := ⟨w1.heap.size, 1, none⟩) hle _).setCell (p := ⟨w1.heap.size, 2, none⟩) hle _)).trans hx5).alloc _⟩
  · have hne : (ofE A r != 0) = true := by rw [bne_iff_ne]; exact h0
    have hE : hasE A r p m = ofE A r := by unfold hasE; rw [if_neg h0]
    have hN : nearR A r p m = 0 := by unfold nearR; rw [if_neg (by omega)]
    rw [hE, hN]
    go_enter Tryz.func131, Tryz.ntmps131
    go_wp2_with (first | (go_at_call 75; refine (of_any _ _ _ _ _ _ _ (hA.mono hx3)).mono ?_; rintro e w1 ⟨rfl, hx1⟩))
    go_ret2
    exact ⟨rfl, (hx3.trans hx1).alloc _⟩

end Go.Proofs.YtcnhlogkhnoacaaGreatDoor
