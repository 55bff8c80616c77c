/- Contracts of harmony's functions: of, alike, masked, takes, signs, spread, Spread, Back, Meet: each call returns the plain value named and only adds blocks to memory; conditions: the alphabet and the masks lie in memory, the library's two tables too. -/
import Derived.Test.YtcnjgfadihimiaaDoorFela
import Derived.Test.YtcnjgfadihimiaaDoorLetz
import Derived.Test.YtcnjgfadihimiaaDoorRadz
import Derived.Test.YtcnjgfadihimiaaDoorWordc
import Derived.Test.YtcnjgfadihimiaaDoorAlgw
import Derived.Test.YtcnjgfadihimiaaDoorMapg
import Derived.Deep.OwnRows
import Derived.Carry
import Derived.Test.YtcnjgfadihimiaaDoorRegt
import Derived.Test.YtcnjgfadihimiaaDoorRngx
namespace Go.Cg
open Go.RowKit
/-- a letter is of a class -/
def ofB (l : Letter) (p : Nat) : Bool := decide (p &&& l.plus = p)
def alikeB (x y : Letter) (k : Nat) : Bool := decide ((x.plus ^^^ y.plus) &&& k = 0 ∧ (x.minus ^^^ y.minus) &&& k = 0)
/-- a letter that takes a mask's features from another one -/
def takR (A : Alpha) (l f : Letter) (k : Nat) : Int := if likeB l.plus l.minus (f.plus &&& k) (f.minus &&& k) = true then l.rune else nearR A l.rune (f.plus &&& k) (f.minus &&& k)
/-- what is wrong with masks -/
def maskE (A : Alpha) (ms : List Nat) : Int := if ms.all (fun m => decide (m < 2 ^ A.feats.length)) = true then 0 else 20
def nm_ (ms : List Nat) (j : Nat) : Nat := ms.getD j 0
theorem nm_eq {ms : List Nat} {j : Nat} (h : j < ms.length) : nm_ ms j = ms[j] := by simp [nm_, List.getD, h]
theorem maskE_bad {A : Alpha} {ms : List Nat} {j : Nat} (hj : j < ms.length) (h : ¬ nm_ ms j < 2 ^ A.feats.length) : maskE A ms = 20 := by
  unfold maskE
  refine if_neg fun hc => h ?_
  have := List.all_eq_true.1 hc _ (List.getElem_mem hj)
  rw [nm_eq hj]; simpa using this
theorem maskE_ok {A : Alpha} {ms : List Nat} (h : ∀ j, j < ms.length → nm_ ms j < 2 ^ A.feats.length) : maskE A ms = 0 := by
  unfold maskE
  refine if_pos (List.all_eq_true.2 fun m hm => ?_)
  obtain ⟨j, hj, e⟩ := List.getElem_of_mem hm
  have := h j hj
  rw [nm_eq hj, e] at this
  simpa using this
/-- a row of masks in memory -/
def MasksAt (w : World) (p : Option Addr) (ms : List Nat) : Prop := Reads w p ms.length (fun j => .int .u32 (nm_ ms j : Nat)) ∧ ∀ j, j < ms.length → nm_ ms j < 4294967296
theorem MasksAt.mono {w w' : World} {p : Option Addr} {ms : List Nat} (h : MasksAt w p ms) (hx : Ext w w') : MasksAt w' p ms := ⟨h.1.mono hx, h.2⟩
end Go.Cg
namespace Go.Proofs.YtcnjgfadihimiaaDoor
open Go.RowKit Go.Cg Go.Shelf Go.Maps

set_option maxHeartbeats 400000 in
theorem hof_any (r : Int) (lp lm p : Nat) (hlp : lp < 4294967296) (hp : p < 4294967296) (w : World) :
    Calls Tryd.prog 30 #[.agg #[.int .i32 r, .int .u32 lp, .int .u32 lm], .int .u32 p] w fun e w' => e = .returned (.bool (decide (p &&& lp = p))) ∧ Ext w w' := by
  have e1 := Lib.hid (u32_andNot_nat p lp hp hlp)
  have e3 := Lib.hid (andNot_iff hp hlp)
  go_enter Tryd.func30, Tryd.ntmps30
  go_wp2_with fail
  all_goals go_ret
  all_goals (refine ⟨ret_bool ?_, (Ext.refl _).alloc _⟩; have E1 := e1.out; have E3 := e3.out; rw [Bool.eq_iff_iff]; simp only [decide_eq_true_eq, beq_iff_eq] at *; omega)

set_option maxHeartbeats 400000 in
theorem alike_any (r s : Int) (xp xm yp ym k : Nat) (hxp : xp < 4294967296) (hxm : xm < 4294967296) (hyp : yp < 4294967296) (hym : ym < 4294967296) (hk : k < 4294967296) (w : World) :
    Calls Tryd.prog 37 #[.agg #[.int .i32 r, .int .u32 xp, .int .u32 xm], .agg #[.int .i32 s, .int .u32 yp, .int .u32 ym], .int .u32 k] w fun e w' => e = .returned (.bool (alikeB ⟨r, xp, xm⟩ ⟨s, yp, ym⟩ k)) ∧ Ext w w' := by
  have e1 := u32_xor_nat xp yp hxp hyp
  have e2 := u32_xor_nat xm ym hxm hym
  have l1 : xp ^^^ yp < 4294967296 := Nat.xor_lt_two_pow (n := 32) hxp hyp
  have l2 : xm ^^^ ym < 4294967296 := Nat.xor_lt_two_pow (n := 32) hxm hym
  have e3 := u32_and_nat (xp ^^^ yp) k l1 hk
  have e4 := u32_and_nat (xm ^^^ ym) k l2 hk
  have hal : alikeB ⟨r, xp, xm⟩ ⟨s, yp, ym⟩ k = (decide ((xp ^^^ yp) &&& k = 0) && decide ((xm ^^^ ym) &&& k = 0)) := by unfold alikeB; rw [Bool.decide_and]
  obtain ⟨a, ha⟩ : ∃ a, (xp ^^^ yp) &&& k = a := ⟨_, rfl⟩
  obtain ⟨b, hb⟩ : ∃ b, (xm ^^^ ym) &&& k = b := ⟨_, rfl⟩
  rw [ha] at e3 hal
  rw [hb] at e4 hal
  rw [hal]
  clear ha hb hal l1 l2
  by_cases h1 : a = 0
  · subst h1
    by_cases h2 : b = 0
    · subst h2
      go_enter Tryd.func37, Tryd.ntmps37
      go_wp2_with fail
      all_goals go_ret
      all_goals exact ⟨rfl, ((Ext.refl _).alloc _).alloc _⟩
    · have g2 : ((b : Int) == 0) = false := by rw [beq_eq_false_iff_ne]; omega
      have g3 : decide (b = 0) = false := decide_eq_false h2
      rw [g3]
      go_enter Tryd.func37, Tryd.ntmps37
      go_wp2_with fail
      all_goals go_ret
      all_goals exact ⟨rfl, ((Ext.refl _).alloc _).alloc _⟩
  · have g2 : ((a : Int) == 0) = false := by rw [beq_eq_false_iff_ne]; omega
    have g3 : decide (a = 0) = false := decide_eq_false h1
    rw [g3]
    go_enter Tryd.func37, Tryd.ntmps37
    go_wp2_with fail
    all_goals go_ret
    all_goals exact ⟨rfl, ((Ext.refl _).alloc _).alloc _⟩

set_option maxRecDepth 100000 in
set_option maxHeartbeats 1000000 in
theorem masked_any (fp lp mp : Option Addr) (fc lc mc : Nat) (A : Alpha) (ms : List Nat) (hn : ms.length ≤ 8) (w : World) (hA : AlphaAt w fp lp A) (hM : MasksAt w mp ms) :
    Calls Tryd.prog 40 #[.agg #[.slice fp A.feats.length fc, .slice lp A.lets.length lc], .slice mp ms.length mc] w fun e w' => e = .returned (.int .i64 (maskE A ms)) ∧ Ext w w' := by
  have hfb := hA.fbig
  go_enter Tryd.func40, Tryd.ntmps40
  go_wp2_with fail
  go_loopw [9] (fun i wr => ∃ k : Nat, k ≤ ms.length ∧ i = .int .i64 k ∧ Ext (w.alloc (.cells #[.slice fp A.feats.length fc, .slice lp A.lets.length lc] 26)) wr ∧ Hid (∀ j, j < k → nm_ ms j < 2 ^ A.feats.length)) (fun i _ => ms.length - (intOf i).toNat)
  case atStart => exact ⟨0, Nat.zero_le _, rfl, Ext.refl _, fun j hj => by omega⟩
  case round =>
    obtain ⟨k, hk, rfl, hx, HZ⟩ := hrel
    by_cases hlt : k < ms.length
    · obtain ⟨b, off, e0, hbw, hc⟩ := (hM.mono hx.box).1.cells_ hlt
      have c0 := hc k hlt
      subst e0
      have d0 := hx.cell0 0
      have l0 := hx.lt0
      simp at d0
      have hm := hM.2 k hlt
      have hiff := lt_min_iff (n := A.feats.length) hm
      have hcast : ((nm_ ms k : Nat) : Int) / 2 ^ min A.feats.length 32 = ((nm_ ms k / 2 ^ min A.feats.length 32 : Nat) : Int) := by simp
      by_cases hb : nm_ ms k < 2 ^ A.feats.length
      · have g1 : (((nm_ ms k : Nat) : Int) / 2 ^ min A.feats.length 32 != 0) = false := by
          rw [hcast, Nat.div_eq_of_lt (hiff.2 hb)]; rfl
        clear hc hiff hcast
        go_wp2_with fail
        exact ⟨⟨k + 1, by omega, by go_num, hx, upto_succ HZ.out hb⟩, by simp [intOf]; omega⟩
      · have g1 : (((nm_ ms k : Nat) : Int) / 2 ^ min A.feats.length 32 != 0) = true := by
          rw [hcast, bne_iff_ne]
          have h1 : 0 < nm_ ms k / 2 ^ min A.feats.length 32 := Nat.div_pos (Nat.le_of_not_lt fun h => hb (hiff.1 h)) (Nat.two_pow_pos _)
          omega
        have HE := Lib.hid (maskE_bad hlt hb)
        clear hc hiff hcast hb
        go_wp2_with fail
        go_ret
        exact ⟨by rw [HE.out]; rfl, hx.box⟩
    · have e : k = ms.length := by omega
      subst e
      have HE := Lib.hid (maskE_ok HZ.out)
      go_wp2_with fail
      go_ret
      exact ⟨by rw [HE.out]; rfl, hx.box⟩

end Go.Proofs.YtcnjgfadihimiaaDoor

namespace Go.Proofs.YtcnjgfadihimiaaDoor
open Go.RowKit Go.Cg Go.Shelf Go.Maps

set_option maxRecDepth 100000 in
set_option maxHeartbeats 2000000 in
theorem takes_any (fp lp : Option Addr) (fc lc : Nat) (A : Alpha) (l f : Letter) (k : Nat) (hl : l.wf) (hf : f.wf) (hk : k < 4294967296) (w : World) (hA : AlphaAt w fp lp A) :
    Calls Tryd.prog 38 #[.agg #[.slice fp A.feats.length fc, .slice lp A.lets.length lc], .agg #[.int .i32 l.rune, .int .u32 (l.plus : Int), .int .u32 (l.minus : Int)], .agg #[.int .i32 f.rune, .int .u32 (f.plus : Int), .int .u32 (f.minus : Int)], .int .u32 k] w fun e w' => e = .returned (.int .i32 (takR A l f k)) ∧ Ext w w' := by
  obtain ⟨lr, lpl, lmi⟩ := l
  obtain ⟨fr, fpl, fmi⟩ := f
  obtain ⟨_, _, hl1, hl2⟩ := hl
  obtain ⟨_, _, hf1, hf2⟩ := hf
  simp only at hl1 hl2 hf1 hf2
  have ht : takR A ⟨lr, lpl, lmi⟩ ⟨fr, fpl, fmi⟩ k = if likeB lpl lmi (fpl &&& k) (fmi &&& k) = true then lr else nearR A lr (fpl &&& k) (fmi &&& k) := rfl
  have e1 := u32_and_nat fpl k hf1 hk
  have e2 := u32_and_nat fmi k hf2 hk
  have la : fpl &&& k < 4294967296 := Nat.lt_of_le_of_lt Nat.and_le_left hf1
  have lb : fmi &&& k < 4294967296 := Nat.lt_of_le_of_lt Nat.and_le_left hf2
  have hne := fun W (hW : Ext w W) => near_any fp lp fc lc A lr (fpl &&& k) (fmi &&& k) la lb W (hA.mono hW)
  have e3 := u32_andNot_nat (fpl &&& k) lpl la hl1
  have e4 := u32_andNot_nat (fmi &&& k) lmi lb hl2
  have i3 := andNot_iff la hl1
  have i4 := andNot_iff lb hl2
  rw [ht]
  clear ht
  obtain ⟨a, ha⟩ : ∃ a, fpl &&& k = a := ⟨_, rfl⟩
  obtain ⟨b, hb⟩ : ∃ b, fmi &&& k = b := ⟨_, rfl⟩
  rw [ha] at e1 e3 i3 hne ⊢
  rw [hb] at e2 e4 i4 hne ⊢
  clear ha hb la lb
  obtain ⟨x, hx⟩ : ∃ x, a &&& (4294967295 - lpl) = x := ⟨_, rfl⟩
  obtain ⟨y, hy⟩ : ∃ y, b &&& (4294967295 - lmi) = y := ⟨_, rfl⟩
  rw [hx] at e3 i3
  rw [hy] at e4 i4
  have HNE := Lib.hid hne
  clear hx hy hne
  have hlk : likeB lpl lmi a b = (decide (x = 0) && decide (y = 0)) := by unfold likeB; rw [Bool.decide_and, decide_eq_decide.2 i3.symm, decide_eq_decide.2 i4.symm]
  rw [hlk]
  clear hlk i3 i4
  have hbx : Ext w (((w.alloc (.cells #[.slice fp A.feats.length fc, .slice lp A.lets.length lc] 26)).alloc (.cells #[.int .i32 lr, .int .u32 lpl, .int .u32 lmi] 52)).alloc (.cells #[.int .i32 fr, .int .u32 fpl, .int .u32 fmi] 52)) := (((Ext.refl _).alloc _).alloc _).alloc _
  by_cases h1 : x = 0
  · subst h1
    by_cases h2 : y = 0
    · subst h2
      rw [if_pos (by decide)]
      go_enter Tryd.func38, Tryd.ntmps38
      go_wp2_with fail
      obtain ⟨W0, hW0⟩ : ∃ W0, ((w.alloc (.cells #[.slice fp A.feats.length fc, .slice lp A.lets.length lc] 26)).alloc (.cells #[.int .i32 lr, .int .u32 lpl, .int .u32 lmi] 52)).alloc (.cells #[.int .i32 fr, .int .u32 fpl, .int .u32 fmi] 52) = W0 := ⟨_, rfl⟩
      have hx0 : Ext (w.alloc (.cells #[.slice fp A.feats.length fc, .slice lp A.lets.length lc] 26)) W0 := by rw [← hW0]; exact ((Ext.refl _).alloc _).alloc _
      have hx1 : Ext ((w.alloc (.cells #[.slice fp A.feats.length fc, .slice lp A.lets.length lc] 26)).alloc (.cells #[.int .i32 lr, .int .u32 lpl, .int .u32 lmi] 52)) W0 := by rw [← hW0]; exact (Ext.refl _).alloc _
      have hx2 : Ext (((w.alloc (.cells #[.slice fp A.feats.length fc, .slice lp A.lets.length lc] 26)).alloc (.cells #[.int .i32 lr, .int .u32 lpl, .int .u32 lmi] 52)).alloc (.cells #[.int .i32 fr, .int .u32 fpl, .int .u32 fmi] 52)) W0 := by rw [← hW0]; exact Ext.refl _
      rw [hW0] at hbx ⊢
      clear hW0
      have HQ := Lib.hid (fun W (hW : Ext W0 W) => (⟨(hx0.trans hW).cell0 0, (hx0.trans hW).cell0 1, (hx0.trans hW).lt0, by have := (hx1.trans hW).cell0 0; rw [size_alloc] at this; exact this, by have := (hx1.trans hW).cell0 1; rw [size_alloc] at this; exact this, by have := (hx1.trans hW).cell0 2; rw [size_alloc] at this; exact this, by have := (hx1.trans hW).lt0; rw [size_alloc] at this; exact this, by have := (hx2.trans hW).cell0 1; rw [size_alloc, size_alloc] at this; exact this, by have := (hx2.trans hW).cell0 2; rw [size_alloc, size_alloc] at this; exact this, by have := (hx2.trans hW).lt0; rw [size_alloc, size_alloc] at this; exact this⟩ : W.cell? ⟨w.heap.size, 0, none⟩ = some (.slice fp A.feats.length fc) ∧ W.cell? ⟨w.heap.size, 1, none⟩ = some (.slice lp A.lets.length lc) ∧ w.heap.size < W.heap.size ∧ W.cell? ⟨w.heap.size + 1, 0, none⟩ = some (.int .i32 lr) ∧ W.cell? ⟨w.heap.size + 1, 1, none⟩ = some (.int .u32 lpl) ∧ W.cell? ⟨w.heap.size + 1, 2, none⟩ = some (.int .u32 lmi) ∧ w.heap.size + 1 < W.heap.size ∧ W.cell? ⟨w.heap.size + 1 + 1, 1, none⟩ = some (.int .u32 fpl) ∧ W.cell? ⟨w.heap.size + 1 + 1, 2, none⟩ = some (.int .u32 fmi) ∧ w.heap.size + 1 + 1 < W.heap.size))
      clear hx0 hx1 hx2
      obtain ⟨_, _, _, _, _, _, _, q1, q2, q3⟩ := HQ.out W0 (Ext.refl _)
      (refine wp_region_ext (by kernel_rfl) (by kernel_rfl) ?_; intro ι hι g hg; have q_q1 := hg.cell q1; have q_q2 := hg.cell q2; clear q1 q2; (repeat (go_big_quiet_step (fail))); refine wpQuiet_nil ?_; rintro w2 ⟨i2, rfl⟩; have hq := hg.ext i2; generalize g i2 = w2 at hq ⊢; clear q_q1 q_q2 i2 hg g hι ι)
      obtain ⟨d0, d1, l0, r0, r1, r2, l1, _, _, _⟩ := HQ.out w2 hq
      go_wp2_with fail
      go_ret
      exact ⟨rfl, hbx.trans hq⟩
    · have g2 : ((y : Int) == 0) = false := by rw [beq_eq_false_iff_ne]; omega
      rw [if_neg (by simp [h2])]
      clear h2
      go_enter Tryd.func38, Tryd.ntmps38
      go_wp2_with fail
      obtain ⟨W0, hW0⟩ : ∃ W0, ((w.alloc (.cells #[.slice fp A.feats.length fc, .slice lp A.lets.length lc] 26)).alloc (.cells #[.int .i32 lr, .int .u32 lpl, .int .u32 lmi] 52)).alloc (.cells #[.int .i32 fr, .int .u32 fpl, .int .u32 fmi] 52) = W0 := ⟨_, rfl⟩
      have hx0 : Ext (w.alloc (.cells #[.slice fp A.feats.length fc, .slice lp A.lets.length lc] 26)) W0 := by rw [← hW0]; exact ((Ext.refl _).alloc _).alloc _
      have hx1 : Ext ((w.alloc (.cells #[.slice fp A.feats.length fc, .slice lp A.lets.length lc] 26)).alloc (.cells #[.int .i32 lr, .int .u32 lpl, .int .u32 lmi] 52)) W0 := by rw [← hW0]; exact (Ext.refl _).alloc _
      have hx2 : Ext (((w.alloc (.cells #[.slice fp A.feats.length fc, .slice lp A.lets.length lc] 26)).alloc (.cells #[.int .i32 lr, .int .u32 lpl, .int .u32 lmi] 52)).alloc (.cells #[.int .i32 fr, .int .u32 fpl, .int .u32 fmi] 52)) W0 := by rw [← hW0]; exact Ext.refl _
      rw [hW0] at hbx ⊢
      clear hW0
      have HQ := Lib.hid (fun W (hW : Ext W0 W) => (⟨(hx0.trans hW).cell0 0, (hx0.trans hW).cell0 1, (hx0.trans hW).lt0, by have := (hx1.trans hW).cell0 0; rw [size_alloc] at this; exact this, by have := (hx1.trans hW).cell0 1; rw [size_alloc] at this; exact this, by have := (hx1.trans hW).cell0 2; rw [size_alloc] at this; exact this, by have := (hx1.trans hW).lt0; rw [size_alloc] at this; exact this, by have := (hx2.trans hW).cell0 1; rw [size_alloc, size_alloc] at this; exact this, by have := (hx2.trans hW).cell0 2; rw [size_alloc, size_alloc] at this; exact this, by have := (hx2.trans hW).lt0; rw [size_alloc, size_alloc] at this; exact this⟩ : W.cell? ⟨w.heap.size, 0, none⟩ = some (.slice fp A.feats.length fc) ∧ W.cell? ⟨w.heap.size, 1, none⟩ = some (.slice lp A.lets.length lc) ∧ w.heap.size < W.heap.size ∧ W.cell? ⟨w.heap.size + 1, 0, none⟩ = some (.int .i32 lr) ∧ W.cell? ⟨w.heap.size + 1, 1, none⟩ = some (.int .u32 lpl) ∧ W.cell? ⟨w.heap.size + 1, 2, none⟩ = some (.int .u32 lmi) ∧ w.heap.size + 1 < W.heap.size ∧ W.cell? ⟨w.heap.size + 1 + 1, 1, none⟩ = some (.int .u32 fpl) ∧ W.cell? ⟨w.heap.size + 1 + 1, 2, none⟩ = some (.int .u32 fmi) ∧ w.heap.size + 1 + 1 < W.heap.size))
      clear hx0 hx1 hx2
      obtain ⟨_, _, _, _, _, _, _, q1, q2, q3⟩ := HQ.out W0 (Ext.refl _)
      (refine wp_region_ext (by kernel_rfl) (by kernel_rfl) ?_; intro ι hι g hg; have q_q1 := hg.cell q1; have q_q2 := hg.cell q2; clear q1 q2; (repeat (go_big_quiet_step (fail))); refine wpQuiet_nil ?_; rintro w2 ⟨i2, rfl⟩; have hq := hg.ext i2; generalize g i2 = w2 at hq ⊢; clear q_q1 q_q2 i2 hg g hι ι)
      obtain ⟨d0, d1, l0, r0, r1, r2, l1, _, _, _⟩ := HQ.out w2 hq
      go_wp2_with (go_at_call 52; refine (HNE.out _ (hbx.trans hq)).mono ?_; rintro e w3 ⟨rfl, hx4⟩)
      go_ret
      exact ⟨rfl, (hbx.trans hq).trans hx4⟩
  · have g2 : ((x : Int) == 0) = false := by rw [beq_eq_false_iff_ne]; omega
    rw [if_neg (by simp [h1])]
    clear h1
    go_enter Tryd.func38, Tryd.ntmps38
    go_wp2_with fail
    obtain ⟨W0, hW0⟩ : ∃ W0, ((w.alloc (.cells #[.slice fp A.feats.length fc, .slice lp A.lets.length lc] 26)).alloc (.cells #[.int .i32 lr, .int .u32 lpl, .int .u32 lmi] 52)).alloc (.cells #[.int .i32 fr, .int .u32 fpl, .int .u32 fmi] 52) = W0 := ⟨_, rfl⟩
    have hx0 : Ext (w.alloc (.cells #[.slice fp A.feats.length fc, .slice lp A.lets.length lc] 26)) W0 := by rw [← hW0]; exact ((Ext.refl _).alloc _).alloc _
    have hx1 : Ext ((w.alloc (.cells #[.slice fp A.feats.length fc, .slice lp A.lets.length lc] 26)).alloc (.cells #[.int .i32 lr, .int .u32 lpl, .int .u32 lmi] 52)) W0 := by rw [← hW0]; exact (Ext.refl _).alloc _
    have hx2 : Ext (((w.alloc (.cells #[.slice fp A.feats.length fc, .slice lp A.lets.length lc] 26)).alloc (.cells #[.int .i32 lr, .int .u32 lpl, .int .u32 lmi] 52)).alloc (.cells #[.int .i32 fr, .int .u32 fpl, .int .u32 fmi] 52)) W0 := by rw [← hW0]; exact Ext.refl _
    rw [hW0] at hbx ⊢
    clear hW0
    have HQ := Lib.hid (fun W (hW : Ext W0 W) => (⟨(hx0.trans hW).cell0 0, (hx0.trans hW).cell0 1, (hx0.trans hW).lt0, by have := (hx1.trans hW).cell0 0; rw [size_alloc] at this; exact this, by have := (hx1.trans hW).cell0 1; rw [size_alloc] at this; exact this, by have := (hx1.trans hW).cell0 2; rw [size_alloc] at this; exact this, by have := (hx1.trans hW).lt0; rw [size_alloc] at this; exact this, by have := (hx2.trans hW).cell0 1; rw [size_alloc, size_alloc] at this; exact this, by have := (hx2.trans hW).cell0 2; rw [size_alloc, size_alloc] at this; exact this, by have := (hx2.trans hW).lt0; rw [size_alloc, size_alloc] at this; exact this⟩ : W.cell? ⟨w.heap.size, 0, none⟩ = some (.slice fp A.feats.length fc) ∧ W.cell? ⟨w.heap.size, 1, none⟩ = some (.slice lp A.lets.length lc) ∧ w.heap.size < W.heap.size ∧ W.cell? ⟨w.heap.size + 1, 0, none⟩ = some (.int .i32 lr) ∧ W.cell? ⟨w.heap.size + 1, 1, none⟩ = some (.int .u32 lpl) ∧ W.cell? ⟨w.heap.size + 1, 2, none⟩ = some (.int .u32 lmi) ∧ w.heap.size + 1 < W.heap.size ∧ W.cell? ⟨w.heap.size + 1 + 1, 1, none⟩ = some (.int .u32 fpl) ∧ W.cell? ⟨w.heap.size + 1 + 1, 2, none⟩ = some (.int .u32 fmi) ∧ w.heap.size + 1 + 1 < W.heap.size))
    clear hx0 hx1 hx2
    obtain ⟨_, _, _, _, _, _, _, q1, q2, q3⟩ := HQ.out W0 (Ext.refl _)
    (refine wp_region_ext (by kernel_rfl) (by kernel_rfl) ?_; intro ι hι g hg; have q_q1 := hg.cell q1; have q_q2 := hg.cell q2; clear q1 q2; (repeat (go_big_quiet_step (fail))); refine wpQuiet_nil ?_; rintro w2 ⟨i2, rfl⟩; have hq := hg.ext i2; generalize g i2 = w2 at hq ⊢; clear q_q1 q_q2 i2 hg g hι ι)
    obtain ⟨d0, d1, l0, r0, r1, r2, l1, _, _, _⟩ := HQ.out w2 hq
    go_wp2_with (go_at_call 52; refine (HNE.out _ (hbx.trans hq)).mono ?_; rintro e w3 ⟨rfl, hx4⟩)
    go_ret
    exact ⟨rfl, (hbx.trans hq).trans hx4⟩

end Go.Proofs.YtcnjgfadihimiaaDoor

namespace Go.Cg
open Go.RowKit Go.Maps
def letD (l : Letter) : DataW Unit := .agg [.lit (.int .i32 l.rune), .lit (.int .u32 (l.plus : Int)), .lit (.int .u32 (l.minus : Int))]
def letV (l : Letter) : Value := .agg #[.int .i32 l.rune, .int .u32 (l.plus : Int), .int .u32 (l.minus : Int)]
/-- how a letter among a map's elements reads -/
def letR (v : Value) : Option (DataW Unit × List MemPlace) :=
  match v with
  | .agg cs => match cs.toList with
    | [.int .i32 a, .int .u32 b, .int .u32 c] => some (.agg [.lit (.int .i32 a), .lit (.int .u32 b), .lit (.int .u32 c)], [])
    | _ => none
  | _ => none
theorem letR_v (l : Letter) : letR (letV l) = some (letD l, []) := rfl
theorem letR_inv {v : Value} {l : Letter} {ps : List MemPlace} (h : letR v = some (letD l, ps)) : v = letV l := by
  unfold letR at h
  split at h
  · split at h
    · rename_i cs a b c hc
      simp only [Option.some.injEq, Prod.mk.injEq, letD, DataW.agg.injEq, List.cons.injEq, DataW.lit.injEq, Lit.int.injEq, true_and, and_true] at h
      obtain ⟨⟨h1, h2, h3⟩, _⟩ := h
      unfold letV
      congr 1
      apply Array.ext'
      rw [hc, h1, h2, h3]
    · cases h
  · cases h
/-- the first k letters by their runes -/
def byF (A : Alpha) : Nat → Lit → Option (DataW Unit)
  | 0 => fun _ => none
  | k + 1 => putG (byF A k) (.int .i32 (A.at_ k).rune) (letD (A.at_ k))
theorem byF_at {A : Alpha} (hA : A.Ok) {i : Nat} (hi : i < A.lets.length) : ∀ k, k ≤ A.lets.length → i < k → byF A k (.int .i32 (A.at_ i).rune) = some (letD (A.at_ i))
  | k + 1, hk, h => by
    unfold byF putG
    by_cases e : i = k
    · subst e
      rw [if_pos (by simp [Lit.sameKey])]
    · have hne : (A.at_ i).rune ≠ (A.at_ k).rune := (hA.2.2.2.2 k (by omega)).2.2 i (by omega)
      rw [if_neg (by simp [Lit.sameKey, hne])]
      exact byF_at hA hi k (by omega) (by omega)
def letOf (A : Alpha) (r : Int) : Letter := A.at_ (findLetter A r).toNat
theorem letOf_rune {A : Alpha} {r : Int} (h : 0 ≤ findLetter A r) : (letOf A r).rune = r ∧ ∃ i, i < A.lets.length ∧ letOf A r = A.at_ i := by
  obtain ⟨i, e, hi, hr, _⟩ := findLetter_some h
  unfold letOf
  rw [e]
  exact ⟨hr, i, hi, rfl⟩
theorem byF_find {A : Alpha} (hA : A.Ok) {r : Int} (h : 0 ≤ findLetter A r) : byF A A.lets.length (.int .i32 r) = some (letD (letOf A r)) := by
  obtain ⟨hr, i, hi, e⟩ := letOf_rune h
  have := byF_at hA hi A.lets.length (Nat.le_refl _) hi
  rw [← e, hr] at this
  exact this
theorem MapG.setCell_other {P : Program} {w : World} {K : TypeId} {R : Value → Option (DataW Unit × List MemPlace)} {b n : Nat} {f : Lit → Option (DataW Unit)} (h : MapG P w K R b n f) {a : Addr} (ha : b ≠ a.block) (v : Value) : MapG P (w.setCell a v) K R b n f := by
  obtain ⟨D, hD, hf⟩ := h
  refine ⟨D, ?_, hf⟩
  obtain ⟨es, clock, hb, r⟩ := hD
  exact ⟨es, clock, (Go.Deep.blk_setCell_other _ _ _ _ ha).trans hb, r⟩
/-- a word's letters with their signs -/
def sgn (A : Alpha) (s : ByteArray) : List Letter := (ltr A s).map (letOf A)
def signE (A : Alpha) (s : ByteArray) (ms : List Nat) : Int := if ltrE A s ≠ 0 then ltrE A s else maskE A ms
end Go.Cg
namespace Go.Proofs.YtcnjgfadihimiaaDoor
open Go.RowKit Go.Cg Go.Shelf Go.Maps

theorem infoLe : (Tryd.prog.info? 52).map (fun i => (i.zero, i.size, i.bytes)) = some (some (.agg #[.int .i32 0, .int .u32 0, .int .u32 0]), 3, 12) := by kernel_rfl

theorem zeroLe (w : World) : (zeroValue 52).run Tryd.prog w = .ok (letV ⟨0, 0, 0⟩) w := by
  have h := infoLe
  cases hi : Tryd.prog.info? 52 with
  | none => rw [hi] at h; cases h
  | some i =>
    rw [hi] at h
    simp only [Option.map_some, Option.some.injEq, Prod.mk.injEq] at h
    simp [zeroValue, typeInfo, hi, h.1, letV]

set_option maxRecDepth 100000 in
set_option maxHeartbeats 4000000 in
theorem signs_any (fp lp mp : Option Addr) (fc lc mc : Nat) (A : Alpha) (s : ByteArray) (hs : s.size ≤ 140737488351232) (ms : List Nat) (hn : ms.length ≤ 8) (w : World) (hA : AlphaAt w fp lp A) (hM : MasksAt w mp ms) (hTb : Tabs w) :
    Calls Tryd.prog 29 #[.agg #[.slice fp A.feats.length fc, .slice lp A.lets.length lc], .string s, .slice mp ms.length mc] w fun e w' => (signE A s ms = 0 → ∃ g, e = .returned (.tuple #[.slice (some ⟨g, 0, none⟩) (sgn A s).length (sgn A s).length, .int .i64 0]) ∧ w.heap.size ≤ g ∧ w'.rowIs g 52 ((sgn A s).length * 3) (Alpha.letCell ⟨[], sgn A s⟩)) ∧ (signE A s ms ≠ 0 → e = .returned (.tuple #[.slice none 0 0, .int .i64 (signE A s ms)])) ∧ Ext w w' := by
  have hx3 : Ext w (w.alloc (.cells #[.slice fp A.feats.length fc, .slice lp A.lets.length lc] 26)) := (Ext.refl _).alloc _
  have hcx := letters_any fp lp fc lc A s hs _ (hA.mono hx3) (hTb.ext hx3)
  have hmk := fun W (hW : Ext w W) => masked_any fp lp mp fc lc mc A ms hn W (hA.mono hW) (hM.mono hW)
  have hE : signE A s ms = if ltrE A s ≠ 0 then ltrE A s else maskE A ms := rfl
  have e1 : (spell A s).2 = ltrE A s := rfl
  have e2 : (spell A s).1 = ltr A s := rfl
  rw [e1, e2] at hcx
  clear e1 e2
  have HBX := Lib.hid (fun W (hW : Ext (w.alloc (.cells #[.slice fp A.feats.length fc, .slice lp A.lets.length lc] 26)) W) => (⟨hW.cell0 0, hW.cell0 1, hW.lt0⟩ : W.cell? ⟨w.heap.size, 0, none⟩ = some (.slice fp A.feats.length fc) ∧ W.cell? ⟨w.heap.size, 1, none⟩ = some (.slice lp A.lets.length lc) ∧ w.heap.size < W.heap.size))
  by_cases h0 : ltrE A s = 0
  · rw [if_neg (fun h => h h0)] at hE
    obtain ⟨hok, _, hin, h64⟩ := ltr_ok h0
    have h128 := hok.2.2.1
    rw [h0] at hcx
    rw [hE]
    by_cases hm : maskE A ms = 0
    · rw [hm] at hmk ⊢
      have HMK := Lib.hid hmk
      have HIN := Lib.hid hin
      have HOK := Lib.hid hok
      clear hE hmk hin hok h0 hm
      have hmm := @run_makeMap Tryd.prog
      obtain ⟨i0, hi, hz0, hz1, hz2⟩ := info_parts infoLe
      have hms := fun W => run_make (P := Tryd.prog) W 24 52 i0 _ Tryd.underlying24 hi hz0 .i64 .i64 ((ltr A s).length : Int) ((ltr A s).length : Int) (by omega) (Int.le_refl _) (by rw [hz2]; omega) (by omega)
      rw [hz1] at hms
      simp only [Int.toNat_natCast] at hms
      have hsl : (sgn A s).length = (ltr A s).length := by unfold sgn; simp
      have hsa := fun k (hk : k < (ltr A s).length) => (show ∀ j, j < 3 → Alpha.letCell ⟨[], sgn A s⟩ (k * 3 + j) = [Value.int .i32 (letOf A (rn (ltr A s) k)).rune, .int .u32 ((letOf A (rn (ltr A s) k)).plus : Int), .int .u32 ((letOf A (rn (ltr A s) k)).minus : Int)].getD j undef by
        intro j hj
        have e : Alpha.at_ ⟨[], sgn A s⟩ k = letOf A (rn (ltr A s) k) := by
          rw [Alpha.at_eq (show k < (Alpha.mk [] (sgn A s)).lets.length from by show k < (sgn A s).length; omega), rn_eq hk]
          show (sgn A s)[k] = _
          simp [sgn]
        unfold Alpha.letCell
        rw [show (k * 3 + j) / 3 = k by omega, show (k * 3 + j) % 3 = j by omega, e]
        match j, hj with
        | 0, _ => rfl
        | 1, _ => rfl
        | 2, _ => rfl)
      have hlf := fun k (hk : k < (ltr A s).length) => byF_find HOK.out (HIN.out (rn (ltr A s) k) (by rw [rn_eq hk]; exact List.getElem_mem hk))
      rw [hsl]
      obtain ⟨CL, hCL⟩ : ∃ f, Alpha.letCell ⟨[], sgn A s⟩ = f := ⟨_, rfl⟩
      rw [hCL] at hsa ⊢
      obtain ⟨X, hX⟩ : ∃ X, ltr A s = X := ⟨_, rfl⟩
      rw [hX] at hcx hms hsa hlf h64 ⊢
      have HSA := Lib.hid hsa
      have HLF := Lib.hid hlf
      clear hCL hX hsl hsa hlf
      go_enter Tryd.func29, Tryd.ntmps29
      go_wp2_with (first | (go_at_call 24; refine hcx.mono ?_; rintro e w1 ⟨xp, xc, rfl, ho, hx1⟩; obtain ⟨d0, d1, l0⟩ := HBX.out _ hx1) | (go_at_call 40; refine (HMK.out _ (hx3.trans hx1)).mono ?_; rintro e w2 ⟨rfl, hx2⟩; obtain ⟨d0, d1, l0⟩ := HBX.out _ (hx1.trans hx2)))
      have hxw := (hx3.trans hx1).trans hx2
      have hlb := hA.lbig
      clear d0 d1 l0 hcx
      go_loopw [36] (fun i wr => ∃ k : Nat, k ≤ A.lets.length ∧ i = .int .i64 k ∧ Ext w2 wr ∧ w2.heap.size < wr.heap.size ∧ MapG Tryd.prog wr 21 letR w2.heap.size k (byF A k)) (fun i _ => A.lets.length - (intOf i).toNat)
      case atStart => exact ⟨0, Nat.zero_le _, rfl, (Ext.refl _).alloc _, by simp, MapG.made Tryd.prog w2 21 letR⟩
      case round =>
        obtain ⟨k, hk, rfl, hx, hwn, hMp⟩ := hrel
        by_cases hlt : k < A.lets.length
        · obtain ⟨b, off, rfl, hbw, c0, c1, c2⟩ := (hA.mono (hxw.trans hx)).cells hlt
          obtain ⟨wf1, wf2, wf3, wf4⟩ := hA.wf k hlt
          have hM1 := hMp.ext ((Ext.refl wr).alloc (.cells #[.int .i32 (A.at_ k).rune, .int .u32 ((A.at_ k).plus : Int), .int .u32 ((A.at_ k).minus : Int)] 52))
          go_wp2_with (at_mapUpdate; go_loud (refine wpList_mapUpdate_g _ rfl _ _ _ 84 rfl 21 52 letR w2.heap.size k (byF A k) hM1 lawR Tryd.underlying84 (by unfold maxLen; omega) rfl _ _ _ (letD (A.at_ k)) [] rfl rfl (keyR wf1 wf2) (letR_v _) ?_); intro w5 hM2 hg2 hs2)
          refine ⟨⟨k + 1, by omega, by go_num, ?_, ?_, hM2⟩, by simp [intOf]; omega⟩
          · exact (hx.alloc _).grown hg2 (by rintro j ⟨⟩; exact Nat.le_refl _)
          · simp at hs2; omega
        · have e : k = A.lets.length := by omega
          subst e
          go_wp2_with fail
          obtain ⟨W5, hW5⟩ : ∃ W5, wr.alloc (.cells (madeCells #[.int .i32 0, .int .u32 0, .int .u32 0] (X.length * 3)) 52) = W5 := ⟨_, rfl⟩
          have hE5 : Ext w2 W5 := by rw [← hW5]; exact hx.alloc _
          have hM5 := hMp.ext ((Ext.refl wr).alloc (.cells (madeCells #[.int .i32 0, .int .u32 0, .int .u32 0] (X.length * 3)) 52))
          have hR5 := World.rowIs_alloc wr (madeCells #[.int .i32 0, .int .u32 0, .int .u32 0] (X.length * 3)) 52 (fun i => (madeCells #[.int .i32 0, .int .u32 0, .int .u32 0] (X.length * 3))[i]?.getD undef) (fun i hi => by rw [Array.getElem?_eq_getElem hi]; rfl)
          rw [size_madeCells] at hR5
          rw [hW5] at hM5 hR5 ⊢
          obtain ⟨g, hg⟩ : ∃ g, wr.heap.size = g := ⟨_, rfl⟩
          rw [hg] at hR5 hwn ⊢
          have hle2 : w2.heap.size ≤ g := Nat.le_of_lt hwn
          have hgw : w.heap.size ≤ g := Nat.le_trans hxw.le hle2
          have hwX := ho.2.2
          have HM5 := Lib.hid hM5
          have HR5 := Lib.hid hR5
          have HZ := Lib.hid zeroLe
          clear hW5 hg hM5 hR5 hMp hx
          go_loopw [50] (fun i wq => ∃ (k : Nat) (f : Nat → Value), k ≤ X.length ∧ i = .int .i64 k ∧ Ext w2 wq ∧ MapG Tryd.prog wq 21 letR w2.heap.size A.lets.length (byF A A.lets.length) ∧ wq.rowIs g 52 (X.length * 3) f ∧ Hid (∀ j, j < k * 3 → f j = CL j)) (fun i _ => X.length - (intOf i).toNat)
          case atStart => exact ⟨0, _, Nat.zero_le _, rfl, hE5, HM5.out, HR5.out, fun j hj => by omega⟩
          case round =>
            obtain ⟨k, f, hk, rfl, hy, hMq, hRq, HF⟩ := hrel
            by_cases hlt : k < X.length
            · obtain ⟨b, off, e0, hbw, c0⟩ := (ho.at_.mono (hx2.trans hy)).cells hlt
              subst e0
              obtain ⟨v, ps, hrun, hv⟩ := hMq.look lawR Tryd.underlying84 (HZ.out wr) (letR_v _) (keyR (hwX k hlt).1 (hwX k hlt).2)
              rw [HLF.out k hlt] at hv
              have e1 := letR_inv hv
              subst e1
              unfold letV at hrun
              have r0 := hRq.cell (i := k * 3) (by omega)
              have r1 := hRq.cell (i := k * 3 + 1) (by omega)
              have r2 := hRq.cell (i := k * 3 + 2) (by omega)
              have f0 := hRq.frozen (k * 3)
              have f1 := hRq.frozen (k * 3 + 1)
              have f2 := hRq.frozen (k * 3 + 2)
              have lg := hRq.lt
              have hsa := HSA.out k hlt
              obtain ⟨L, hL⟩ : ∃ L, letOf A (rn X k) = L := ⟨_, rfl⟩
              rw [hL] at hrun hsa
              have HSK := Lib.hid hsa
              have hne : w2.heap.size ≠ g := by omega
              clear hv hL hsa
              go_wp2_with fail
              refine ⟨⟨k + 1, _, by omega, by go_num, ((hy.setCell hle2 _).setCell hle2 _).setCell hle2 _, ((hMq.setCell_other hne _).setCell_other hne _).setCell_other hne _, ((hRq.set (k * 3) _).set (k * 3 + 1) _).set (k * 3 + 2) _, ?_⟩, by simp [intOf]; omega⟩
              intro j hj
              have h0 := HSK.out 0 (by omega)
              have h1 := HSK.out 1 (by omega)
              have h2 := HSK.out 2 (by omega)
              by_cases q2 : j = k * 3 + 2
              · subst q2
                exact (if_pos rfl).trans h2.symm
              · by_cases q1 : j = k * 3 + 1
                · subst q1
                  exact ((if_neg q2).trans (if_pos rfl)).trans h1.symm
                · by_cases q0 : j = k * 3
                  · subst q0
                    exact ((if_neg q2).trans ((if_neg q1).trans (if_pos rfl))).trans h0.symm
                  · exact ((if_neg q2).trans ((if_neg q1).trans (if_neg q0))).trans (HF.out j (by omega))
            · have e : k = X.length := by omega
              subst e
              go_wp2_with fail
              go_ret2
              exact ⟨fun _ => ⟨g, rfl, hgw, hRq.congr fun j hj => HF.out j hj⟩, fun h => absurd rfl h, hxw.trans hy⟩
    · have gE : (maskE A ms != 0) = true := by rw [bne_iff_ne]; exact hm
      have HMK := Lib.hid hmk
      have HH := Lib.hid hm
      clear hE hmk hm
      go_enter Tryd.func29, Tryd.ntmps29
      go_wp2_with (first | (go_at_call 24; refine hcx.mono ?_; rintro e w1 ⟨xp, xc, rfl, ho, hx1⟩; obtain ⟨d0, d1, l0⟩ := HBX.out _ hx1) | (go_at_call 40; refine (HMK.out _ (hx3.trans hx1)).mono ?_; rintro e w2 ⟨rfl, hx2⟩))
      go_ret2
      exact ⟨fun h => absurd h HH.out, fun _ => rfl, (hx3.trans hx1).trans hx2⟩
  · rw [if_pos h0] at hE
    rw [hE]
    have gE : (ltrE A s != 0) = true := by rw [bne_iff_ne]; exact h0
    have HH := Lib.hid h0
    clear hE hmk h0
    go_enter Tryd.func29, Tryd.ntmps29
    go_wp2_with (go_at_call 24; refine hcx.mono ?_; rintro e w1 ⟨xp, xc, rfl, ho, hx1⟩)
    go_ret2
    exact ⟨fun h => absurd h HH.out, fun _ => rfl, hx3.trans hx1⟩

end Go.Proofs.YtcnjgfadihimiaaDoor

namespace Go.Cg
open Go.RowKit Go.Lib
def la (L : List Letter) (i : Nat) : Letter := L.getD i default
/-- block g holds a row of letters -/
structure LetRow (w : World) (g : Nat) (L : List Letter) : Prop where
  lt : g < w.heap.size
  cell : ∀ i, i < L.length → w.cell? ⟨g, i * 3, none⟩ = some (.int .i32 (la L i).rune) ∧ w.cell? ⟨g, i * 3 + 1, none⟩ = some (.int .u32 ((la L i).plus : Int)) ∧ w.cell? ⟨g, i * 3 + 2, none⟩ = some (.int .u32 ((la L i).minus : Int))
  wf : ∀ i, i < L.length → (la L i).wf
theorem LetRow.ext {w w' : World} {g : Nat} {L : List Letter} (h : LetRow w g L) (hx : Ext w w') : LetRow w' g L :=
  ⟨Nat.lt_of_lt_of_le h.lt hx.le, fun i hi => by
    obtain ⟨a, b, c⟩ := h.cell i hi
    exact ⟨(hx.facts.1 _ _ h.lt).trans a, (hx.facts.1 _ _ h.lt).trans b, (hx.facts.1 _ _ h.lt).trans c⟩, h.wf⟩
theorem letCell_la (L : List Letter) (i : Nat) : Alpha.letCell ⟨[], L⟩ (i * 3) = .int .i32 (la L i).rune ∧ Alpha.letCell ⟨[], L⟩ (i * 3 + 1) = .int .u32 ((la L i).plus : Int) ∧ Alpha.letCell ⟨[], L⟩ (i * 3 + 2) = .int .u32 ((la L i).minus : Int) := by
  unfold Alpha.letCell
  refine ⟨?_, ?_, ?_⟩
  · rw [show i * 3 / 3 = i by omega, show i * 3 % 3 = 0 by omega]; rfl
  · rw [show (i * 3 + 1) / 3 = i by omega, show (i * 3 + 1) % 3 = 1 by omega]; rfl
  · rw [show (i * 3 + 2) / 3 = i by omega, show (i * 3 + 2) % 3 = 2 by omega]; rfl
theorem LetRow.of_row {w : World} {g : Nat} {T : TypeId} {L : List Letter} (h : w.rowIs g T (L.length * 3) (Alpha.letCell ⟨[], L⟩)) (hw : ∀ i, i < L.length → (la L i).wf) : LetRow w g L :=
  ⟨h.lt, fun i hi => by
    obtain ⟨a, b, c⟩ := letCell_la L i
    exact ⟨(h.cell (i := i * 3) (by omega)).trans (by rw [a]), (h.cell (i := i * 3 + 1) (by omega)).trans (by rw [b]), (h.cell (i := i * 3 + 2) (by omega)).trans (by rw [c])⟩, hw⟩
theorem size_setCell (w : World) (a : Addr) (v : Value) : (w.setCell a v).heap.size = w.heap.size := by simp [World.setCell]
theorem rowX {w w' : World} {b : Nat} {t : TypeId} {n : Nat} {f : Nat → Value} (hr : w.rowIs b t n f) (h : Ext w w') : w'.rowIs b t n f := hr.of_block (Below.block h b hr.lt)
theorem row_put {j : Nat} {f g : Nat → Value} {v : Value} (h : ∀ i, i < j → f i = g i) (hv : v = g j) : ∀ i, i < j + 1 → (fun i => if i = j then v else f i) i = g i := fun i hi => by
  by_cases e : i = j
  · subst e; exact (if_pos rfl).trans hv
  · exact (if_neg e).trans (h i (by omega))
/-- letters that take a mask's features from the one with a number -/
def sprR (A : Alpha) (L : List Letter) (p k fr i : Nat) : Int := if i ≠ fr ∧ ofB (la L i) p = true then takR A (la L i) (la L fr) k else (la L i).rune
def sprL (A : Alpha) (L : List Letter) (p k fr : Nat) : List Int := (List.range L.length).map (sprR A L p k fr)
theorem sprL_len (A : Alpha) (L : List Letter) (p k fr : Nat) : (sprL A L p k fr).length = L.length := by simp [sprL]
theorem sprL_at (A : Alpha) (L : List Letter) (p k fr : Nat) {i : Nat} (h : i < L.length) : rn (sprL A L p k fr) i = sprR A L p k fr i := by
  rw [rn_eq (by rw [sprL_len]; exact h)]; simp [sprL]
theorem nearR_range {w : World} {fp lp : Option Addr} {A : Alpha} (hA : AlphaAt w fp lp A) (r : Int) (p m : Nat) : -2147483648 ≤ nearR A r p m ∧ nearR A r p m ≤ 2147483647 := by
  unfold nearR
  split
  · by_cases h : nearIdx A (wantP (ofL A r) p m) (wantM (ofL A r) p m) < A.lets.length
    · have := hA.wf _ h
      exact ⟨this.1, this.2.1⟩
    · have e : A.at_ (nearIdx A (wantP (ofL A r) p m) (wantM (ofL A r) p m)) = default := by
        unfold Alpha.at_; simp [List.getD, List.getElem?_eq_none (Nat.le_of_not_lt h)]
      rw [e]; decide
  · decide
theorem takR_range {w : World} {fp lp : Option Addr} {A : Alpha} (hA : AlphaAt w fp lp A) {l f : Letter} (hl : l.wf) (k : Nat) : -2147483648 ≤ takR A l f k ∧ takR A l f k ≤ 2147483647 := by
  unfold takR
  split
  · exact ⟨hl.1, hl.2.1⟩
  · exact nearR_range hA _ _ _
end Go.Cg
namespace Go.Proofs.YtcnjgfadihimiaaDoor
open Go.RowKit Go.Cg Go.Shelf Go.Maps

theorem infoRu : (Tryd.prog.info? 21).map (fun i => (i.zero, i.size, i.bytes)) = some (some (.int .i32 0), 1, 4) := by kernel_rfl

set_option maxRecDepth 100000 in
set_option maxHeartbeats 4000000 in
theorem spread_any (fp lp : Option Addr) (fc lc : Nat) (A : Alpha) (g : Nat) (L : List Letter) (p k fr : Nat) (hp : p < 4294967296) (hk : k < 4294967296) (hfr : fr < L.length) (hn : L.length ≤ 64) (w : World) (hA : AlphaAt w fp lp A) (hL : LetRow w g L) :
    Calls Tryd.prog 31 #[.agg #[.slice fp A.feats.length fc, .slice lp A.lets.length lc], .slice (some ⟨g, 0, none⟩) L.length L.length, .int .u32 p, .int .u32 k, .int .i64 (fr : Int)] w fun e w' => e = .returned (.string (runesBytes (sprL A L p k fr))) ∧ Ext w w' := by
  have hx3 : Ext w (w.alloc (.cells #[.slice fp A.feats.length fc, .slice lp A.lets.length lc] 26)) := (Ext.refl _).alloc _
  have hmk := fun W => run_make_row' (P := Tryd.prog) 41 21 (.int .i32 0) 4 Tryd.underlying41 infoRu rfl .i64 .i64 L.length (by omega) (by omega) W
  have HBX := Lib.hid (fun W (hW : Ext (w.alloc (.cells #[.slice fp A.feats.length fc, .slice lp A.lets.length lc] 26)) W) => (⟨hW.cell0 0, hW.cell0 1, hW.lt0⟩ : W.cell? ⟨w.heap.size, 0, none⟩ = some (.slice fp A.feats.length fc) ∧ W.cell? ⟨w.heap.size, 1, none⟩ = some (.slice lp A.lets.length lc) ∧ w.heap.size < W.heap.size))
  have HTA := Lib.hid (fun i (hi : i < L.length) W (hW : Ext w W) => takes_any fp lp fc lc A (la L i) (la L fr) k (hL.wf i hi) (hL.wf fr hfr) hk W (hA.mono hW))
  have HOF := Lib.hid (fun i (hi : i < L.length) W => (show Calls Tryd.prog 30 #[.agg #[.int .i32 (la L i).rune, .int .u32 ((la L i).plus : Int), .int .u32 ((la L i).minus : Int)], .int .u32 p] W fun e w' => e = .returned (.bool (ofB (la L i) p)) ∧ Ext W w' from hof_any _ _ _ p (hL.wf i hi).2.2.1 hp W))
  have hSP := fun i (hi : i < L.length) => sprL_at A L p k fr hi
  have hSR : ∀ i, sprR A L p k fr i = if i ≠ fr ∧ ofB (la L i) p = true then takR A (la L i) (la L fr) k else (la L i).rune := fun _ => rfl
  have hwr : ∀ i, i < L.length → -2147483648 ≤ rn (sprL A L p k fr) i ∧ rn (sprL A L p k fr) i ≤ 2147483647 := fun i hi => by
    rw [sprL_at A L p k fr hi]
    unfold sprR
    split
    · exact takR_range hA (hL.wf i hi) k
    · exact ⟨(hL.wf i hi).1, (hL.wf i hi).2.1⟩
  have hlen := sprL_len A L p k fr
  obtain ⟨SP, hS⟩ : ∃ SP, sprL A L p k fr = SP := ⟨_, rfl⟩
  rw [hS] at hSP hwr hlen ⊢
  have HSP := Lib.hid (fun i (hi : i < L.length) => (hSP i hi).trans (hSR i))
  have HWR := Lib.hid hwr
  have HLEN := Lib.hid hlen
  clear hS hSP hSR hwr hlen
  go_enter Tryd.func31, Tryd.ntmps31
  go_wp2_with fail
  obtain ⟨W0, hW0⟩ : ∃ W0, (w.alloc (.cells #[.slice fp A.feats.length fc, .slice lp A.lets.length lc] 26)).alloc (.cells (madeCells #[.int .i32 0] L.length) 21) = W0 := ⟨_, rfl⟩
  have hE0 : Ext (w.alloc (.cells #[.slice fp A.feats.length fc, .slice lp A.lets.length lc] 26)) W0 := by rw [← hW0]; exact (Ext.refl _).alloc _
  have hR0 := World.rowIs_made (w.alloc (.cells #[.slice fp A.feats.length fc, .slice lp A.lets.length lc] 26)) (.int .i32 0) L.length 21
  rw [size_alloc] at hR0
  rw [hW0] at hR0 ⊢
  obtain ⟨o, ho⟩ : ∃ o, w.heap.size + 1 = o := ⟨_, rfl⟩
  rw [ho] at hR0 ⊢
  have hgo : (w.alloc (.cells #[.slice fp A.feats.length fc, .slice lp A.lets.length lc] 26)).heap.size ≤ o := by rw [size_alloc]; omega
  have hgO : g ≠ o := by have := hL.lt; omega
  have HGO := Lib.hid hgo
  have HE0 := Lib.hid hE0
  have HR0 := Lib.hid hR0
  clear hW0 ho hE0 hR0 hgo
  go_loopw [19] (fun i wr => ∃ (j : Nat) (f : Nat → Value), j ≤ L.length ∧ i = .int .i64 j ∧ Ext (w.alloc (.cells #[.slice fp A.feats.length fc, .slice lp A.lets.length lc] 26)) wr ∧ wr.rowIs o 21 L.length f ∧ Hid (∀ t, t < j → f t = .int .i32 (rn SP t))) (fun i _ => L.length - (intOf i).toNat)
  case atStart => exact ⟨0, _, Nat.zero_le _, rfl, HE0.out, HR0.out, fun t ht => by omega⟩
  case round =>
    obtain ⟨j, f, hj, rfl, hx, hR, HF⟩ := hrel
    by_cases hlt : j < L.length
    · obtain ⟨c0, c1, c2⟩ := (hL.ext hx.box).cell j hlt
      have lgw := (hL.ext hx.box).lt
      have r0 := hR.cell (i := j) hlt
      have f0 := hR.frozen j
      have lo := hR.lt
      have hsp := HSP.out j hlt
      have hx6 : Ext (w.alloc (.cells #[.slice fp A.feats.length fc, .slice lp A.lets.length lc] 26)) ((wr.setCell ⟨o, j, none⟩ (.int .i32 (la L j).rune)).alloc (.cells #[.int .i32 (la L j).rune, .int .u32 ((la L j).plus : Int), .int .u32 ((la L j).minus : Int)] 52)) := (hx.setCell HGO.out _).alloc _
      have hR6 := (hR.set j (.int .i32 (la L j).rune)).alloc (.cells #[.int .i32 (la L j).rune, .int .u32 ((la L j).plus : Int), .int .u32 ((la L j).minus : Int)] 52)
      by_cases hjf : j = fr
      · have gi : ((j : Int) != (fr : Int)) = false := by rw [hjf]; simp
        rw [if_neg (fun h => h.1 hjf)] at hsp
        have HS := Lib.hid hsp
        clear hsp hjf
        go_wp2_with fail
        exact ⟨⟨j + 1, _, by omega, by go_num, hx6, hR6, row_put HF.out (by rw [HS.out])⟩, by simp [intOf]; omega⟩
      · have gi : ((j : Int) != (fr : Int)) = true := by rw [bne_iff_ne]; omega
        have hof := HOF.out j hlt
        cases hB : ofB (la L j) p
        · rw [if_neg (fun h => by rw [hB] at h; cases h.2)] at hsp
          rw [hB] at hof
          have HS := Lib.hid hsp
          have HO := Lib.hid hof
          clear hsp hjf hof hB
          go_wp2_with (go_at_call 30; refine (HO.out _).mono ?_; rintro e w5 ⟨rfl, hx5⟩)
          exact ⟨⟨j + 1, _, by omega, by go_num, hx6.trans hx5, rowX hR6 hx5, row_put HF.out (by rw [HS.out])⟩, by simp [intOf]; omega⟩
        · rw [if_pos ⟨hjf, hB⟩] at hsp
          rw [hB] at hof
          have HS := Lib.hid hsp
          have HO := Lib.hid hof
          have HT := Lib.hid (HTA.out j hlt)
          clear hsp hjf hof hB
          go_wp2_with (go_at_call 30; refine (HO.out _).mono ?_; rintro e w5 ⟨rfl, hx5⟩)
          have hxw := (hx6.trans hx5).box
          obtain ⟨d0, d1, l0⟩ := HBX.out _ (hx6.trans hx5)
          obtain ⟨q0, q1, q2⟩ := (hL.ext hxw).cell fr hfr
          have lgz := (hL.ext hxw).lt
          have x0 := hx5.cell0 0
          have x1 := hx5.cell0 1
          have x2 := hx5.cell0 2
          have lx := hx5.lt0
          rw [size_setCell] at x0 x1 x2 lx
          simp only [List.getElem?_toArray, List.getElem?_cons_zero, List.getElem?_cons_succ] at x0 x1 x2
          have hR5 := rowX hR6 hx5
          clear c0 c1 c2 r0 f0 lo lgw
          (refine wp_region_ext_tail 11 (by kernel_rfl) (by kernel_rfl) ?_; intro ι hι g hg; simp only [List.take_succ_cons, List.take_zero, List.drop_succ_cons, List.drop_zero]; have q_d0 := hg.cell d0; have q_d1 := hg.cell d1; have q_q0 := hg.cell q0; have q_q1 := hg.cell q1; have q_q2 := hg.cell q2; have q_x0 := hg.cell x0; have q_x1 := hg.cell x1; have q_x2 := hg.cell x2; clear d0 d1 q0 q1 q2 x0 x1 x2; (repeat (go_big_quiet_step ((go_at_call 38; exact hg.call (HT.out _ (hxw.trans (hg.ext _))))))); refine wpQuiet_nil ?_; rintro w8 ⟨i2, rfl⟩; have hq := hg.ext i2; generalize g i2 = w8 at hq ⊢; clear q_d0 q_d1 q_q0 q_q1 q_q2 q_x0 q_x1 q_x2 i2 hg g hι ι)
          have hR8 := rowX hR5 hq
          have r0 := hR8.cell (i := j) hlt
          have f0 := hR8.frozen j
          have lo := hR8.lt
          go_wp2_with fail
          exact ⟨⟨j + 1, _, by omega, by go_num, ((hx6.trans hx5).trans hq).setCell HGO.out _, hR8.set j _, row_put (fun i hi => by rw [if_neg (by omega)]; exact HF.out i hi) (by rw [HS.out])⟩, by simp [intOf]; omega⟩
    · have e : j = L.length := by omega
      subst e
      have hRA : RunesAt wr (some ⟨o, 0, none⟩) SP := ⟨.inr ⟨o, 0, rfl, hR.lt, fun t ht => by rw [Nat.zero_add]; rw [HLEN.out] at ht; exact (hR.cell ht).trans (by rw [HF.out t ht])⟩, by rw [HLEN.out]; omega, fun t ht => HWR.out t (by rw [← HLEN.out]; exact ht)⟩
      have hcv := hRA.text (P := Tryd.prog) (src := 41) (dst := 9) Tryd.underlying41 Tryd.underlying21 Tryd.underlying9 L.length
      rw [HLEN.out] at hcv
      go_wp2_with fail
      go_ret
      exact ⟨rfl, hx.box⟩

end Go.Proofs.YtcnjgfadihimiaaDoor

namespace Go.Cg
open Go.RowKit Go.Lib
theorem masks_two {W : World} {T : TypeId} {a b : Nat} (ha : a < 4294967296) (hb : b < 4294967296) : MasksAt (W.alloc (.cells #[.int .u32 (a : Int), .int .u32 (b : Int)] T (0, 0))) (some ⟨W.heap.size, 0, none⟩) [a, b] := by
  refine ⟨.inr ⟨W.heap.size, 0, rfl, (Ext.refl (W.alloc (.cells #[.int .u32 (a : Int), .int .u32 (b : Int)] T (0, 0)))).lt0, fun j hj => ?_⟩, fun j hj => ?_⟩
  · rw [Nat.zero_add, (Ext.refl (W.alloc (.cells #[.int .u32 (a : Int), .int .u32 (b : Int)] T (0, 0)))).cell0 j]
    match j, hj with
    | 0, _ => rfl
    | 1, _ => rfl
  · match j, hj with
    | 0, _ => exact ha
    | 1, _ => exact hb
theorem la_sgn {A : Alpha} {s : ByteArray} {i : Nat} (h : i < (sgn A s).length) : la (sgn A s) i = letOf A (rn (ltr A s) i) := by
  have h2 : i < (ltr A s).length := by unfold sgn at h; simpa using h
  unfold la
  rw [rn_eq h2]
  simp [sgn, List.getD, h2]
theorem signE_zero {A : Alpha} {s : ByteArray} {ms : List Nat} (h : signE A s ms = 0) : ltrE A s = 0 ∧ maskE A ms = 0 := by
  unfold signE at h
  split at h
  · contradiction
  · rename_i k; exact ⟨by omega, h⟩
theorem sgn_wf {w : World} {fp lp : Option Addr} {A : Alpha} (hA : AlphaAt w fp lp A) {s : ByteArray} (h : ltrE A s = 0) : ∀ i, i < (sgn A s).length → (la (sgn A s) i).wf := fun i hi => by
  have h2 : i < (ltr A s).length := by unfold sgn at hi; simpa using hi
  have hin := (ltr_ok h).2.2.1 (rn (ltr A s) i) (by rw [rn_eq h2]; exact List.getElem_mem h2)
  obtain ⟨_, t, ht, e⟩ := letOf_rune hin
  rw [la_sgn hi, e]
  exact hA.wf t ht
theorem sgn_len {A : Alpha} {s : ByteArray} (h : ltrE A s = 0) : (sgn A s).length ≤ 64 := by
  have := (ltr_ok h).2.2.2
  unfold sgn; simpa using this
/-- the first one of a class -/
def firstI (L : List Letter) (p : Nat) : Option Nat := L.findIdx? fun l => ofB l p
theorem la_eq {L : List Letter} {i : Nat} (h : i < L.length) : la L i = L[i] := by simp [la, List.getD, h]
theorem firstI_at {L : List Letter} {p i : Nat} (hi : i < L.length) (h0 : ∀ j, j < i → ofB (la L j) p = false) (h1 : ofB (la L i) p = true) : firstI L p = some i := by
  unfold firstI
  rw [List.findIdx?_eq_some_iff_getElem]
  refine ⟨hi, by rw [← la_eq hi]; exact h1, fun j hj => ?_⟩
  rw [← la_eq (by omega), h0 j hj]; decide
theorem firstI_none {L : List Letter} {p : Nat} (h0 : ∀ j, j < L.length → ofB (la L j) p = false) : firstI L p = none := by
  unfold firstI
  rw [List.findIdx?_eq_none_iff]
  intro x hx
  obtain ⟨j, hj, e⟩ := List.getElem_of_mem hx
  have := h0 j hj
  rw [la_eq hj, e] at this
  exact this
/-- a word in which a mask's features go from a letter on -/
def fromS (A : Alpha) (s : ByteArray) (p k : Nat) : Option Nat → ByteArray
  | none => s
  | some i => runesBytes (sprL A (sgn A s) p k i)
def sprS (A : Alpha) (s : ByteArray) (p k : Nat) : ByteArray := if signE A s [p, k] = 0 then fromS A s p k (firstI (sgn A s) p) else ⟨#[]⟩
end Go.Cg
namespace Go.Proofs.YtcnjgfadihimiaaDoor
open Go.RowKit Go.Cg Go.Shelf Go.Maps

set_option maxRecDepth 100000 in
set_option maxHeartbeats 4000000 in
theorem spreadW_any (fp lp : Option Addr) (fc lc : Nat) (A : Alpha) (s : ByteArray) (hs : s.size ≤ 140737488351232) (p k : Nat) (hp : p < 4294967296) (hk : k < 4294967296) (w : World) (hA : AlphaAt w fp lp A) (hTb : Tabs w) :
    Calls Tryd.prog 12 #[.agg #[.slice fp A.feats.length fc, .slice lp A.lets.length lc], .string s, .int .u32 p, .int .u32 k] w fun e w' => e = .returned (.tuple #[.string (sprS A s p k), .int .i64 (signE A s [p, k])]) ∧ Ext w w' := by
  have hx3 : Ext w (w.alloc (.cells #[.slice fp A.feats.length fc, .slice lp A.lets.length lc] 26)) := (Ext.refl _).alloc _
  have HBX := Lib.hid (fun W (hW : Ext (w.alloc (.cells #[.slice fp A.feats.length fc, .slice lp A.lets.length lc] 26)) W) => (⟨hW.cell0 0, hW.cell0 1, hW.lt0⟩ : W.cell? ⟨w.heap.size, 0, none⟩ = some (.slice fp A.feats.length fc) ∧ W.cell? ⟨w.heap.size, 1, none⟩ = some (.slice lp A.lets.length lc) ∧ w.heap.size < W.heap.size))
  have hsg := signs_any fp lp (some ⟨(w.alloc (.cells #[.slice fp A.feats.length fc, .slice lp A.lets.length lc] 26)).heap.size, 0, none⟩) fc lc 2 A s hs [p, k] (by simp) ((w.alloc (.cells #[.slice fp A.feats.length fc, .slice lp A.lets.length lc] 26)).alloc (.cells #[.int .u32 (p : Int), .int .u32 (k : Int)] 32)) (hA.mono (hx3.alloc _)) (masks_two hp hk) (hTb.ext (hx3.alloc _))
  rw [size_alloc] at hsg
  have hS : sprS A s p k = if signE A s [p, k] = 0 then fromS A s p k (firstI (sgn A s) p) else ⟨#[]⟩ := rfl
  rw [hS]
  by_cases h0 : signE A s [p, k] = 0
  · rw [if_pos h0, h0]
    have hl0 := (signE_zero h0).1
    have h64 := sgn_len hl0
    have hwf := sgn_wf hA hl0
    have hfa := fun i hi h1 h2 => firstI_at (L := sgn A s) (p := p) (i := i) hi h1 h2
    have hfn := fun h1 => firstI_none (L := sgn A s) (p := p) h1
    have hfs := fun i => (show fromS A s p k (some i) = runesBytes (sprL A (sgn A s) p k i) from rfl)
    have hfs0 : fromS A s p k none = s := rfl
    have HSG := Lib.hid (hsg.mono fun e w' h => (⟨h.1 h0, h.2.2⟩ : _ ∧ Ext _ w'))
    have HOF := Lib.hid (fun i (hi : i < (sgn A s).length) W => (show Calls Tryd.prog 30 #[.agg #[.int .i32 (la (sgn A s) i).rune, .int .u32 ((la (sgn A s) i).plus : Int), .int .u32 ((la (sgn A s) i).minus : Int)], .int .u32 p] W fun e w' => e = .returned (.bool (ofB (la (sgn A s) i) p)) ∧ Ext W w' from hof_any _ _ _ p (hwf i hi).2.2.1 hp W))
    obtain ⟨L, hL⟩ : ∃ L, sgn A s = L := ⟨_, rfl⟩
    rw [hL] at h64 hwf hfa hfn hfs HSG HOF ⊢
    obtain ⟨O, hO⟩ : ∃ O, firstI L p = O := ⟨_, rfl⟩
    rw [hO] at hfa hfn ⊢
    have HSP := Lib.hid (fun g i (hi : i < L.length) W (hW : Ext w W) (hLR : LetRow W g L) => spread_any fp lp fc lc A g L p k i hp hk hi h64 W (hA.mono hW) hLR)
    have HFA := Lib.hid hfa
    have HFN := Lib.hid hfn
    have HFS := Lib.hid hfs
    have HFS0 := Lib.hid hfs0
    have HWF := Lib.hid hwf
    clear hsg hS h0 hl0 hwf hfa hfn hfs hfs0 hL hO
    go_enter Tryd.func12, Tryd.ntmps12
    go_wp2_with fail
    refine HSG.out.mono ?_
    rintro e w1 ⟨⟨g, rfl, hgw, hrow⟩, hx1⟩
    have hLR := LetRow.of_row hrow HWF.out
    have hxb : Ext (w.alloc (.cells #[.slice fp A.feats.length fc, .slice lp A.lets.length lc] 26)) w1 := ((Ext.refl _).alloc _).trans hx1
    have hxw := hx3.trans hxb
    clear hrow hgw hx1
    go_wp2_with fail
    go_loopw [28] (fun i wr => ∃ j : Nat, j ≤ L.length ∧ i = .int .i64 j ∧ Ext w1 wr ∧ Hid (∀ t, t < j → ofB (la L t) p = false)) (fun i _ => L.length - (intOf i).toNat)
    case atStart => exact ⟨0, Nat.zero_le _, rfl, Ext.refl _, fun t ht => by omega⟩
    case round =>
      obtain ⟨j, hj, rfl, hx, HZ⟩ := hrel
      by_cases hlt : j < L.length
      · obtain ⟨c0, c1, c2⟩ := (hLR.ext hx).cell j hlt
        have lgw := (hLR.ext hx).lt
        obtain ⟨d0, d1, l0⟩ := HBX.out _ (hxb.trans hx)
        have hof := HOF.out j hlt
        cases hB : ofB (la L j) p
        · rw [hB] at hof
          have HO := Lib.hid hof
          have HB := Lib.hid hB
          clear hof hB
          go_wp2_with (go_at_call 30; refine (HO.out _).mono ?_; rintro e w5 ⟨rfl, hx5⟩)
          exact ⟨⟨j + 1, by omega, by go_num, (hx.alloc _).trans hx5, upto_succ HZ.out HB.out⟩, by simp [intOf]; omega⟩
        · rw [hB] at hof
          have he := HFA.out j hlt HZ.out hB
          subst he
          have HO := Lib.hid hof
          clear hof hB
          go_wp2_with (go_at_call 30; refine (HO.out _).mono ?_; rintro e w5 ⟨rfl, hx5⟩; obtain ⟨d0, d1, l0⟩ := HBX.out _ (((hxb.trans hx).alloc _).trans hx5))
          refine (HSP.out g j hlt _ (((hxw.trans hx).alloc _).trans hx5) (hLR.ext ((hx.alloc _).trans hx5))).mono ?_
          rintro e w6 ⟨rfl, hx6⟩
          go_wp2_with fail
          go_ret2
          exact ⟨by rw [HFS.out]; rfl, (((hxw.trans hx).alloc _).trans hx5).trans hx6⟩
      · have e : j = L.length := by omega
        subst e
        have he := HFN.out HZ.out
        subst he
        go_wp2_with fail
        go_ret2
        exact ⟨by rw [HFS0.out]; rfl, hxw.trans hx⟩
  · rw [if_neg h0]
    have HSG := Lib.hid (hsg.mono fun e w' h => (⟨h.2.1 h0, h.2.2⟩ : _ ∧ Ext _ w'))
    have gE : (signE A s [p, k] != 0) = true := by rw [bne_iff_ne]; exact h0
    clear hsg hS h0
    go_enter Tryd.func12, Tryd.ntmps12
    go_wp2_with fail
    refine HSG.out.mono ?_
    rintro e w1 ⟨rfl, hx1⟩
    go_wp2_with fail
    go_ret2
    exact ⟨rfl, (hx3.alloc _).trans hx1⟩

end Go.Proofs.YtcnjgfadihimiaaDoor

namespace Go.Cg
open Go.RowKit Go.Lib
/-- a letter's number, with the letter -/
def lencs (L : List Letter) (x : {i : Nat // i < L.length}) : Array Value :=
  #[.int .i64 (x.1 : Int), .agg #[.int .i32 (la L x.1).rune, .int .u32 ((la L x.1).plus : Int), .int .u32 ((la L x.1).minus : Int)]]
/-- the first k numbers from the end -/
def downs (n k : Nat) : List Nat := (List.range k).map fun j => n - 1 - j
theorem downs_succ (n k : Nat) : downs n (k + 1) = downs n k ++ [n - 1 - k] := by simp [downs, List.range_succ]
theorem downs_len (n k : Nat) : (downs n k).length = k := by simp [downs]
theorem LetRow.below {n₀ : Nat} {w w' : World} {g : Nat} {L : List Letter} (h : LetRow w g L) (hg : g < n₀) (hx : Below n₀ w w') : LetRow w' g L :=
  ⟨Nat.lt_of_lt_of_le h.lt hx.size, fun i hi => by
    obtain ⟨a, b, c⟩ := h.cell i hi
    exact ⟨(hx.cell (p := ⟨g, i * 3, none⟩) hg).trans a, (hx.cell (p := ⟨g, i * 3 + 1, none⟩) hg).trans b, (hx.cell (p := ⟨g, i * 3 + 2, none⟩) hg).trans c⟩, h.wf⟩
/-- what a round keeps: what lay below n₁, and the iterator's own box -/
def KpB (n₁ Bs : Nat) (W W' : World) : Prop := Below n₁ W W' ∧ W'.heap[Bs]? = W.heap[Bs]?
theorem kpB_t {n₁ Bs : Nat} {A B C : World} (h : KpB n₁ Bs A B) (k : KpB n₁ Bs B C) : KpB n₁ Bs A C := ⟨h.1.trans k.1, k.2.trans h.2⟩
theorem kpB_b {n₁ Bs : Nat} {w : World} (hn : n₁ ≤ w.heap.size) (hB : Bs < w.heap.size) (W : World) (l : Nat) (o o' : Obj) (hl : w.heap.size ≤ l) (h : W.heap[l]? = some o) (hc : o.isCells = false) (hw : o.isWalk = false) : KpB n₁ Bs W (W.putObj l o') :=
  ⟨belowK_b hn W l o o' hl h hc hw, World.putObj_heap_other (by omega)⟩
theorem kpB_ext {n₁ Bs : Nat} {W W' : World} (h : Ext W W') (hn : n₁ ≤ W.heap.size) (hB : Bs < W.heap.size) : KpB n₁ Bs W W' := ⟨Below.mono h hn, h.block Bs hB⟩
end Go.Cg
namespace Go.Proofs.YtcnjgfadihimiaaDoor
open Go.RowKit Go.Cg Go.Shelf Go.Maps

attribute [local go_sem] Oper.semAt_some

set_option maxRecDepth 100000 in
set_option maxHeartbeats 4000000 in
theorem back1_in (n l Bs n₀ g : Nat) (hn : 1 ≤ n) (L : List Letter) (h64 : L.length ≤ 64) (J Jx : List {i : Nat // i < L.length} → World → Prop)
    (hY : ∀ pre x W, J pre W → pre.length < L.length → YieldAt Fence.wide (n - 1) Tryd.prog l (lencs L x) W fun e W' =>
      (e = .returned (.bool true) ∧ J (pre ++ [x]) W' ∧ KpB n₀ Bs W W') ∨ (e = .returned (.bool false) ∧ Jx (pre ++ [x]) W'))
    (W : World) (hg : g < n₀) (hBs : W.cell? ⟨Bs, 0, none⟩ = some (.slice (some ⟨g, 0, none⟩) L.length L.length)) (hL : LetRow W g L) (h0 : J [] W) :
    CallsIn Fence.wide n Tryd.prog 54 #[.func (.yield l) #[] #[], .pointer (some ⟨Bs, 0, none⟩)] W fun e W' => (∃ v, e = .returned v) ∧
      ((∃ ys : List {i : Nat // i < L.length}, ys.map Subtype.val = downs L.length L.length ∧ J ys W') ∨ (∃ pre : List {i : Nat // i < L.length}, (∃ k, k ≤ L.length ∧ pre.map Subtype.val = downs L.length k) ∧ Jx pre W')) := by
  refine callsIn_of_wp Tryd.func54 rfl trivial ?_ rfl
  simp only [Tryd.ntmps54, List.size_toArray, List.length_cons, List.length_nil, Nat.reduceAdd, Nat.reduceSub, Array.replicate_succ, Array.replicate_zero, List.push_toArray, List.append_toArray, List.nil_append, List.cons_append]
  gi_wp2
  gi_loopw [3] (fun i wr => ∃ (r : Nat) (z : Int) (pre : List {i : Nat // i < L.length}), r ≤ L.length ∧ i = .int .i64 z ∧ z = (r : Int) - 1 ∧ pre.map Subtype.val = downs L.length (L.length - r) ∧ J pre wr ∧ KpB n₀ Bs W wr)
    (fun i _ => (intOf i + 1).toNat)
  case atStart => exact ⟨L.length, _, [], Nat.le_refl _, rfl, by first | rfl | omega | (simp; done), by simp [downs], h0, Below.refl _ _, rfl⟩
  case round =>
    obtain ⟨r, z, pre, hr, rfl, hz, hpre, hJs, hnx⟩ := hrel
    have cb : wr.cell? ⟨Bs, 0, none⟩ = some (.slice (some ⟨g, 0, none⟩) L.length L.length) := by rw [← hBs]; simp only [World.cell?, hnx.2]
    cases r with
    | zero =>
      have hz1 : z = -1 := by omega
      clear hz
      gi_wp2
      go_end0
      exact ⟨⟨_, rfl⟩, .inl ⟨pre, by simpa using hpre, hJs⟩⟩
    | succ s =>
      have hz1 : z = (s : Int) := by omega
      clear hz
      subst hz1
      have hs : s < L.length := by omega
      have hlen : pre.length < L.length := by
        have := congrArg List.length hpre
        rw [List.length_map, downs_len] at this; omega
      obtain ⟨c0, c1, c2⟩ := (hL.below hg hnx.1).cell s hs
      obtain ⟨fn, tmps, assign, body, hy, hR⟩ := hY pre ⟨s, hs⟩ wr hJs hlen
      have hne : (pre ++ [(⟨s, hs⟩ : {i : Nat // i < L.length})]).map Subtype.val = downs L.length (L.length - s) := by
        rw [List.map_append, hpre, show L.length - s = (L.length - (s + 1)) + 1 by omega, downs_succ]
        simp; omega
      simp only [lencs] at hy
      gi_wp2
      refine hR.mono ?_
      rintro e W3 (⟨rfl, hJ3, hk3⟩ | ⟨rfl, hJx3⟩)
      · gi_wp2
        go_roundw
        case rel => exact ⟨s, _, _, by omega, rfl, by first | rfl | omega | go_num, hne, hJ3, kpB_t hnx hk3⟩
        case measure => simp [intOf]
      · gi_wp2
        refine bodyPost_ret (results_none rfl _ _ _) rfl ?_
        exact ⟨⟨_, rfl⟩, .inr ⟨_, ⟨L.length - s, by omega, hne⟩, hJx3⟩⟩

set_option maxHeartbeats 1000000 in
theorem backward_in (n : Nat) (a : Option Addr) (len cap : Nat) (w : World) :
    CallsIn Fence.wide n Tryd.prog 32 #[.slice a len cap] w fun e w' => e = .returned (.func (.func 54) #[] #[.pointer (some ⟨w.heap.size, 0, none⟩)]) ∧ w' = w.alloc (.cells #[.slice a len cap] 24) := by
  refine callsIn_of_wp Tryd.func32 rfl trivial ?_ rfl
  simp only [Tryd.ntmps32, List.size_toArray, List.length_cons, List.length_nil, Nat.reduceAdd, Nat.reduceSub, Array.replicate_succ, Array.replicate_zero, List.push_toArray, List.append_toArray, List.nil_append, List.cons_append]
  gi_wp2
  go_ret
  exact ⟨rfl, rfl⟩

theorem back_stops (n Bs n₀ g : Nat) (hn : 1 ≤ n) (L : List Letter) (h64 : L.length ≤ 64) (w : World) (hn₀ : n₀ ≤ w.heap.size) (hg : g < n₀) (hB0 : Bs < w.heap.size)
    (hc : w.cell? ⟨Bs, 0, none⟩ = some (.slice (some ⟨g, 0, none⟩) L.length L.length)) (hL : LetRow w g L) :
    SeqStopsK Fence.wide n Tryd.prog 54 #[.pointer (some ⟨Bs, 0, none⟩)] (lencs L) (KpB n₀ Bs) (fun ys => ys.map Subtype.val = downs L.length L.length)
      (fun pre => ∃ k, k ≤ L.length ∧ pre.map Subtype.val = downs L.length k) L.length w := fun l J Jx W hW _ _ hY h0 =>
  back1_in n l Bs n₀ g hn L h64 J Jx hY W hg ((hW.cell (p := ⟨Bs, 0, none⟩) hB0).trans hc) (hL.below hg (hW.mono hn₀)) h0

end Go.Proofs.YtcnjgfadihimiaaDoor

namespace Go.Cg
open Go.RowKit Go.Lib
theorem boxX {W W' : World} {B : Nat} {t : TypeId} {v : Value} (h : Boxed W B t v) (hx : Ext W W') : Boxed W' B t v := (hx.block B h.lt).trans h
/-- a block of cells lies as it lay -/
theorem cells_own {β : Type} (B : Nat) (f : β → Obj) (hf : ∀ x, (f x).isCells = true) : Own (fun s W => W.heap[B]? = some (f s)) := fun s X Y row hs hg hrow =>
  (hg.block B (Array.getElem?_eq_some_iff.1 hs).1 (fun e' => by obtain ⟨o, ho, hc⟩ := hrow B e'.symm; rw [hs] at ho; cases ho; rw [hf] at hc; cases hc)).trans hs
theorem cell_of {W : World} {B j : Nat} {cs : Array Value} {t : TypeId} {v : Value} (h : W.heap[B]? = some (.cells cs t (0, 0))) (hv : cs[j]? = some v) : W.cell? ⟨B, j, none⟩ = some v := by
  simp [World.cell?, h, hv]
/-- the last one of a class -/
def lastI (L : List Letter) (p : Nat) : Option Nat := (downs L.length L.length).find? fun i => ofB (la L i) p
def backS (A : Alpha) (s : ByteArray) (p k : Nat) : ByteArray := if signE A s [p, k] = 0 then fromS A s p k (lastI (sgn A s) p) else ⟨#[]⟩
theorem downs_prefix {n k : Nat} (h : k ≤ n) : ∃ r, downs n n = downs n k ++ r := by
  refine ⟨(downs n n).drop k, ?_⟩
  rw [show downs n k = (downs n n).take k by simp [downs, ← List.map_take, List.take_range, Nat.min_eq_left h], List.take_append_drop]
theorem lastI_some {L : List Letter} {p : Nat} {pre ini : List {i : Nat // i < L.length}} {last : {i : Nat // i < L.length}} {k : Nat} (hk : k ≤ L.length) (hp : pre.map Subtype.val = downs L.length k) (e : pre = ini ++ [last])
    (h0 : ∀ x ∈ ini, ofB (la L x.1) p = false) (h1 : ofB (la L last.1) p = true) : lastI L p = some last.1 := by
  obtain ⟨r, hr⟩ := downs_prefix hk
  unfold lastI
  rw [hr, ← hp, e, List.map_append, List.append_assoc, List.find?_append, List.find?_eq_none.2 (by
    intro x hx
    obtain ⟨y, hy, rfl⟩ := List.mem_map.1 hx
    simp [h0 y hy])]
  simp [h1]
theorem lastI_none {L : List Letter} {p : Nat} {pre : List {i : Nat // i < L.length}} (hp : pre.map Subtype.val = downs L.length L.length) (h0 : ∀ x ∈ pre, ofB (la L x.1) p = false) : lastI L p = none := by
  unfold lastI
  rw [← hp]
  refine List.find?_eq_none.2 ?_
  intro x hx
  obtain ⟨y, hy, rfl⟩ := List.mem_map.1 hx
  simp [h0 y hy]
end Go.Cg
namespace Go.Proofs.YtcnjgfadihimiaaDoor
open Go.RowKit Go.Cg Go.Shelf Go.Maps

attribute [local go_sem] Oper.semAt_some

set_option maxRecDepth 100000 in
set_option maxHeartbeats 4000000 in
theorem back_any (fp lp : Option Addr) (fc lc : Nat) (A : Alpha) (s : ByteArray) (hs : s.size ≤ 140737488351232) (p k : Nat) (hp : p < 4294967296) (hk : k < 4294967296) (w : World) (hA : AlphaAt w fp lp A) (hTb : Tabs w) :
    Calls Tryd.prog 14 #[.agg #[.slice fp A.feats.length fc, .slice lp A.lets.length lc], .string s, .int .u32 p, .int .u32 k] w fun e w' => e = .returned (.tuple #[.string (backS A s p k), .int .i64 (signE A s [p, k])]) ∧ Ext w w' := by
  have HSG := Lib.hid (fun W b (hW : Ext w W) (hb : W.heap.size = b) => (by
    subst hb
    exact signs_any fp lp (some ⟨W.heap.size, 0, none⟩) fc lc 2 A s hs [p, k] (by simp) (W.alloc (.cells #[.int .u32 (p : Int), .int .u32 (k : Int)] 32)) (hA.mono (hW.alloc _)) (masks_two hp hk) (hTb.ext (hW.alloc _)) :
      Calls Tryd.prog 29 #[.agg #[.slice fp A.feats.length fc, .slice lp A.lets.length lc], .string s, .slice (some ⟨b, 0, none⟩) 2 2] (W.alloc (.cells #[.int .u32 (p : Int), .int .u32 (k : Int)] 32)) _))
  have bP := ((((Boxed.new (w.alloc (.cells #[.slice fp A.feats.length fc, .slice lp A.lets.length lc] 26)) 32 (.int .u32 (p : Int))).alloc (.cells #[.int .u32 (k : Int)] 32)).alloc (.cells #[.string ⟨#[]⟩] 9)).alloc (.cells #[.int .i64 0] 28))
  have bK := (((Boxed.new ((w.alloc (.cells #[.slice fp A.feats.length fc, .slice lp A.lets.length lc] 26)).alloc (.cells #[.int .u32 (p : Int)] 32)) 32 (.int .u32 (k : Int))).alloc (.cells #[.string ⟨#[]⟩] 9)).alloc (.cells #[.int .i64 0] 28))
  have bS := ((Boxed.new (((w.alloc (.cells #[.slice fp A.feats.length fc, .slice lp A.lets.length lc] 26)).alloc (.cells #[.int .u32 (p : Int)] 32)).alloc (.cells #[.int .u32 (k : Int)] 32)) 9 (.string ⟨#[]⟩)).alloc (.cells #[.int .i64 0] 28))
  have bE := (Boxed.new ((((w.alloc (.cells #[.slice fp A.feats.length fc, .slice lp A.lets.length lc] 26)).alloc (.cells #[.int .u32 (p : Int)] 32)).alloc (.cells #[.int .u32 (k : Int)] 32)).alloc (.cells #[.string ⟨#[]⟩] 9)) 28 (.int .i64 0))
  have hx5 : Ext (w.alloc (.cells #[.slice fp A.feats.length fc, .slice lp A.lets.length lc] 26)) (((((w.alloc (.cells #[.slice fp A.feats.length fc, .slice lp A.lets.length lc] 26)).alloc (.cells #[.int .u32 (p : Int)] 32)).alloc (.cells #[.int .u32 (k : Int)] 32)).alloc (.cells #[.string ⟨#[]⟩] 9)).alloc (.cells #[.int .i64 0] 28)) := ((((Ext.refl _).alloc _).alloc _).alloc _).alloc _
  have hsz : (((((w.alloc (.cells #[.slice fp A.feats.length fc, .slice lp A.lets.length lc] 26)).alloc (.cells #[.int .u32 (p : Int)] 32)).alloc (.cells #[.int .u32 (k : Int)] 32)).alloc (.cells #[.string ⟨#[]⟩] 9)).alloc (.cells #[.int .i64 0] 28)).heap.size = w.heap.size + 1 + 1 + 1 + 1 + 1 := by simp only [World.size_alloc]
  simp only [World.size_alloc] at bP bK bS bE
  obtain ⟨W5, hW5⟩ : ∃ W5, ((((w.alloc (.cells #[.slice fp A.feats.length fc, .slice lp A.lets.length lc] 26)).alloc (.cells #[.int .u32 (p : Int)] 32)).alloc (.cells #[.int .u32 (k : Int)] 32)).alloc (.cells #[.string ⟨#[]⟩] 9)).alloc (.cells #[.int .i64 0] 28) = W5 := ⟨_, rfl⟩
  rw [hW5] at bP bK bS bE hx5 hsz
  have HBX := Lib.hid (fun W (hW : Ext (w.alloc (.cells #[.slice fp A.feats.length fc, .slice lp A.lets.length lc] 26)) W) => (⟨hW.cell0 0, hW.cell0 1, hW.lt0⟩ : W.cell? ⟨w.heap.size, 0, none⟩ = some (.slice fp A.feats.length fc) ∧ W.cell? ⟨w.heap.size, 1, none⟩ = some (.slice lp A.lets.length lc) ∧ w.heap.size < W.heap.size))
  have hx0 : Ext w W5 := hx5.box
  have hsg := HSG.out W5 _ hx0 hsz
  clear HSG
  by_cases h0 : signE A s [p, k] = 0
  · rw [h0]
    have hl0 := (signE_zero h0).1
    have h64 := sgn_len hl0
    have hwf := sgn_wf hA hl0
    have hsp := fun g (W : World) i (hi : i < (sgn A s).length) (hW : Ext w W) (hLR : LetRow W g (sgn A s)) => spread_any fp lp fc lc A g (sgn A s) p k i hp hk hi h64 W (hA.mono hW) hLR
    have hof := fun i (hi : i < (sgn A s).length) W => (show Calls Tryd.prog 30 #[.agg #[.int .i32 (la (sgn A s) i).rune, .int .u32 ((la (sgn A s) i).plus : Int), .int .u32 ((la (sgn A s) i).minus : Int)], .int .u32 p] W fun e W' => e = .returned (.bool (ofB (la (sgn A s) i) p)) ∧ Ext W W' from hof_any _ _ _ p (hwf i hi).2.2.1 hp W)
    have hbk : backS A s p k = fromS A s p k (lastI (sgn A s) p) := if_pos h0
    have hfs : ∀ i, fromS A s p k (some i) = runesBytes (sprL A (sgn A s) p k i) := fun _ => rfl
    have hfs0 : fromS A s p k none = s := rfl
    have hls := fun (pre ini : List {i : Nat // i < (sgn A s).length}) last j hj h1 h2 h3 h4 => lastI_some (L := sgn A s) (p := p) (pre := pre) (ini := ini) (last := last) (k := j) hj h1 h2 h3 h4
    have hln := fun (pre : List {i : Nat // i < (sgn A s).length}) h1 h2 => lastI_none (L := sgn A s) (p := p) (pre := pre) h1 h2
    rw [hbk]
    have HSG := Lib.hid (hsg.mono fun e w' h => (⟨h.1 h0, h.2.2⟩ : _ ∧ Ext _ w'))
    obtain ⟨L, hL⟩ : ∃ L, sgn A s = L := ⟨_, rfl⟩
    rw [hL] at h64 hwf hsp hof hfs hls hln HSG ⊢
    have HSP := Lib.hid hsp
    have HOF := Lib.hid hof
    have HFS := Lib.hid hfs
    have HFS0 := Lib.hid hfs0
    have HLS := Lib.hid hls
    have HLN := Lib.hid hln
    have HWF := Lib.hid hwf
    clear hsg h0 hl0 hwf hsp hof hbk hfs hfs0 hls hln hL
    obtain ⟨d0, d1, l0⟩ := HBX.out _ hx5
    have cP := bP.cell
    have cK := bK.cell
    refine (callsIn_wide (n := 8)).1 ?_
    refine callsIn_of_wp_marks Tryd.func14 rfl trivial ?_ rfl
    simp only [Tryd.ntmps14, List.size_toArray, List.length_cons, List.length_nil, Nat.reduceAdd, Nat.reduceSub, Array.replicate_succ, Array.replicate_zero, List.push_toArray, List.append_toArray, List.nil_append, List.cons_append]
    gi_wp2
    gi_wp2_with (refine ⟨trivial, ?_⟩; gi_at_call 29; refine (callsIn_wide.2 HSG.out).mono ?_; rintro e w1 ⟨⟨g, rfl, hgw, hrow⟩, hx1⟩)
    gi_wp2_with (refine ⟨trivial, ?_⟩; gi_at_call 32; refine (backward_in _ _ _ _ _).mono ?_; rintro e w' ⟨rfl, rfl⟩)
    have hLR := LetRow.of_row hrow HWF.out
    have h51 : Ext W5 w1 := ((Ext.refl W5).alloc _).trans hx1
    clear hrow hgw hx1 HSG
    have bL := (Boxed.new w1 24 (.slice (some ⟨g, 0, none⟩) L.length L.length)).alloc (.cells #[.slice (some ⟨g, 0, none⟩) L.length L.length] 24)
    have bB := Boxed.new (w1.alloc (.cells #[.slice (some ⟨g, 0, none⟩) L.length L.length] 24)) 24 (.slice (some ⟨g, 0, none⟩) L.length L.length)
    have hx10 : Ext w1 ((w1.alloc (.cells #[.slice (some ⟨g, 0, none⟩) L.length L.length] 24)).alloc (.cells #[.slice (some ⟨g, 0, none⟩) L.length L.length] 24)) := ((Ext.refl _).alloc _).alloc _
    have hs0 : ((w1.alloc (.cells #[.slice (some ⟨g, 0, none⟩) L.length L.length] 24)).alloc (.cells #[.slice (some ⟨g, 0, none⟩) L.length L.length] 24)).heap.size = w1.heap.size + 1 + 1 := by simp only [World.size_alloc]
    rw [World.size_alloc] at bB
    obtain ⟨W0, hW0⟩ : ∃ W0, (w1.alloc (.cells #[.slice (some ⟨g, 0, none⟩) L.length L.length] 24)).alloc (.cells #[.slice (some ⟨g, 0, none⟩) L.length L.length] 24) = W0 := ⟨_, rfl⟩
    rw [hW0] at bL bB hx10 hs0 ⊢
    clear hW0 hW5
    have hL0 := hLR.ext hx10
    have hw0 := hx0.trans (h51.trans hx10)
    have hB0 := (hx5.trans h51).trans hx10
    have bP0 := boxX (boxX bP h51) hx10
    have bK0 := boxX (boxX bK h51) hx10
    have bS0 := boxX (boxX bS h51) hx10
    have bE0 := boxX (boxX bE h51) hx10
    have h15 := h51.le
    have g1 := hLR.lt
    clear bP bK bS bE hLR hx0 hx5 hx10 d0 d1 l0 cP cK h51
    refine wpIn_rangeFunc_ownH rfl (by omega) (gf := 54) (lb := #[.pointer (some ⟨w1.heap.size + 1, 0, none⟩)]) rfl trivial (enters_of Tryd.func54 (by kernel_rfl) rfl)
      (back_stops _ (w1.heap.size + 1) W0.heap.size g (by omega) L h64 W0 (Nat.le_refl _) (by omega) (by omega) bB.cell hL0) kpB_t (kpB_b (Nat.le_refl _) (by omega)) (Below.refl _ _) (fun _ => rfl)
      (fun pre W => Ext W0 W ∧ ∀ x ∈ pre, ofB (la L x.1) p = false)
      (fun c pre W => ∃ last, (c = .ret ∧ ∃ ini, pre = ini ++ [last] ∧ (∀ x ∈ ini, ofB (la L x.1) p = false) ∧ ofB (la L last.1) p = true) ∧ Boxed W (w.heap.size + 1 + 1 + 1) 9 (.string (runesBytes (sprL A L p k last.1))) ∧ Boxed W (w.heap.size + 1 + 1 + 1 + 1) 28 (.int .i64 0) ∧ Ext w W)
      (OwnFrom.and (ownFrom_ext (Nat.le_refl _)) (ownFrom_pure _ _))
      (fun c s X Y row hs hg hr => by
        obtain ⟨last, h1, h2, h3, h4⟩ := hs
        exact ⟨last, h1, boxed_own _ _ (fun (_ : Unit) => Value.string (runesBytes (sprL A L p k last.1))) () X Y row h2 hg (fun r e => (hr r e).2), boxed_own _ _ (fun (_ : Unit) => Value.int .i64 0) () X Y row h3 hg (fun r e => (hr r e).2), ownFrom_ext hw0.le () X Y row h4 hg hr⟩)
      ⟨Ext.refl _, fun x hx => by cases hx⟩
      (fun x a' W => ∃ Bx, W0.heap.size ≤ Bx ∧ W.heap[Bx]? = some (.cells #[.int .i32 (la L x.1).rune, .int .u32 ((la L x.1).plus : Int), .int .u32 ((la L x.1).minus : Int)] 52 (0, 0)) ∧ a' = { tmps := #[.agg #[.slice fp A.feats.length fc, .slice lp A.lets.length lc], .string s, .int .u32 p, .int .u32 k, .pointer (some ⟨w.heap.size, 0, none⟩), undef, .pointer (some ⟨w.heap.size + 1, 0, none⟩), .pointer (some ⟨w.heap.size + 1 + 1, 0, none⟩), .pointer (some ⟨w.heap.size + 1 + 1 + 1, 0, none⟩), .pointer (some ⟨w.heap.size + 1 + 1 + 1 + 1, 0, none⟩), .pointer (some ⟨w1.heap.size, 0, none⟩), .int .i64 0, .int .i64 (x.1 : Int), .pointer (some ⟨Bx, 0, none⟩), .tuple #[.slice (some ⟨g, 0, none⟩) L.length L.length, .int .i64 0], .agg #[.slice fp A.feats.length fc, .slice lp A.lets.length lc], .string s, .int .u32 p, .int .u32 k, .slice (some ⟨w.heap.size + 1 + 1 + 1 + 1 + 1, 0, none⟩) 2 2, .tuple #[.slice (some ⟨g, 0, none⟩) L.length L.length, .int .i64 0], .slice (some ⟨g, 0, none⟩) L.length L.length, .int .i64 0, .int .i64 0, .bool false, undef, .slice (some ⟨g, 0, none⟩) L.length L.length, .func (.func 54) #[] #[.pointer (some ⟨w1.heap.size + 1, 0, none⟩)], .int .i64 (x.1 : Int), .agg #[.int .i32 (la L x.1).rune, .int .u32 ((la L x.1).plus : Int), .int .u32 ((la L x.1).minus : Int)], undef, undef, undef, undef, undef, undef, undef, undef, undef, undef], defers := [] })
      (fun x a' _ X Y row hs hg hr => by
        obtain ⟨Bx, h1, h2, h3⟩ := hs
        exact ⟨Bx, h1, cells_own Bx (fun (_ : Unit) => .cells #[.int .i32 (la L x.1).rune, .int .u32 ((la L x.1).plus : Int), .int .u32 ((la L x.1).minus : Int)] 52 (0, 0)) (fun _ => rfl) () X Y row h2 hg (fun r e => (hr r e).2), h3⟩)
      ?assign ?body ?done ?stop
    case assign =>
      rintro lo pre x W K ⟨hE, h0⟩ hK
      simp only [lencs]
      gi_wp2
      exact hK _ _ (keeps_of_ext ((Ext.refl W).alloc _)) (kpB_ext ((Ext.refl W).alloc _) hE.le (by have := hE.le; omega)) ⟨hE.alloc _, h0⟩ ⟨W.heap.size, hE.le, World.alloc_heap_new _ _, rfl⟩
    case body =>
      rintro lo pre ⟨j, hj⟩ a' W hlo _ ⟨hE, h0⟩ ⟨Bx, hBx, hc, rfl⟩ hlen
      have c0 := cell_of (j := 0) hc rfl
      have c1 := cell_of (j := 1) hc rfl
      have c2 := cell_of (j := 2) hc rfl
      have cP := (boxX bP0 hE).cell
      have hof := HOF.out j hj
      have hd : 1 ≤ 8 - 1 - 1 := by omega
      cases hB : ofB (la L j) p
      · rw [hB] at hof
        have HO := Lib.hid hof
        have HB := Lib.hid hB
        clear hof hB
        gi_wp2_with (refine ⟨trivial, ?_⟩; gi_at_call 30; refine (CallsIn.inRound lo (callsIn_wide.2 (HO.out _))).mono ?_; rintro e w5 ⟨rfl, hx5⟩)
        exact ⟨keeps_of_ext hx5, kpB_ext hx5 hE.le (by have := hE.le; omega), hE.trans hx5, fun x hx => (List.mem_append.1 hx).elim (h0 x) (fun e => by simp at e; subst e; exact HB.out)⟩
      · rw [hB] at hof
        have HO := Lib.hid hof
        have HB := Lib.hid hB
        clear hof hB
        gi_wp2_with (refine ⟨trivial, ?_⟩; gi_at_call 30; refine (CallsIn.inRound lo (callsIn_wide.2 (HO.out _))).mono ?_; rintro e w5 ⟨rfl, hx5⟩; obtain ⟨d0, d1, l0⟩ := HBX.out _ (hB0.trans (hE.trans hx5)); have cP := (boxX bP0 (hE.trans hx5)).cell; have cK := (boxX bK0 (hE.trans hx5)).cell; have cL := (boxX bL (hE.trans hx5)).cell)
        refine ⟨trivial, ?_⟩
        refine (CallsIn.inRound lo (callsIn_wide.2 (HSP.out g _ j hj (hw0.trans (hE.trans hx5)) (hL0.ext (hE.trans hx5))))).mono ?_
        rintro e w6 ⟨rfl, hx6⟩
        have bS6 := boxX bS0 ((hE.trans hx5).trans hx6)
        have bE6 := boxX bE0 ((hE.trans hx5).trans hx6)
        have cS := bS6.cell
        have fS := bS6.frozen
        have cE := bE6.cell
        have fE := bE6.frozen
        gi_wp2
        exact ⟨(keeps_of_ext (hx5.trans hx6)).trans (((KeepsOthers.setCell _ _ _).from _).trans ((KeepsOthers.setCell _ _ _).from _)), ⟨j, hj⟩, ⟨rfl, pre, rfl, h0, HB.out⟩, (bS6.set _).other (by omega) _, (bE6.other (by omega) _).set _, (((hw0.trans hE).trans hx5).trans hx6 |>.setCell (by simp; omega) _).setCell (by simp; omega) _⟩
    case done =>
      rintro D ys W hD hys ⟨hE, h0⟩ hK
      have bS6 := boxX bS0 hE
      have bE6 := boxX bE0 hE
      have cS := bS6.cell
      have fS := bS6.frozen
      have cE := bE6.cell
      have fE := bE6.frozen
      have he := HLN.out ys hys h0
      gi_wp2
      have hK1 := (KeepsOthers.setCell W ⟨w.heap.size + 1 + 1 + 1, 0, none⟩ (.string s)).same D _ hK rfl
      have hK' := (KeepsOthers.setCell (W.setCell ⟨w.heap.size + 1 + 1 + 1, 0, none⟩ (.string s)) ⟨w.heap.size + 1 + 1 + 1 + 1, 0, none⟩ (.int .i64 0)).same D _ hK1 rfl
      have c8 := (((bS6.set (.string s)).other (B' := w.heap.size + 1 + 1 + 1 + 1) (by omega) (.int .i64 0)).kept (grownBy_putObj' _ D (.deferred none)) (by intro e; simp at e; omega)).cell
      have c9 := (((bE6.other (B' := w.heap.size + 1 + 1 + 1) (by omega) (.string s)).set (.int .i64 0)).kept (grownBy_putObj' _ D (.deferred none)) (by intro e; simp at e; omega)).cell
      refine ⟨by simp, .inl ⟨_, _, rfl, run_takeDeferred hK', ?_⟩⟩
      refine ⟨.tuple #[.string s, .int .i64 0], ?_, by rw [he, HFS0.out], Ext.putObj (((hw0.trans hE).setCell (by simp; omega) _).setCell (by simp; omega) _) (by omega) hK' rfl rfl _⟩
      simp [results, Tryd.f14, go_sem, c8, c9]
    case stop =>
      rintro D c pre W hD ⟨j, hj, hpre⟩ ⟨last, ⟨rfl, ini, e1, e2, e3⟩, bS6, bE6, hX⟩ hK
      have he := HLS.out pre ini last j hj hpre e1 e2 e3
      gi_wp2
      have c8 := (bS6.kept (grownBy_putObj' _ D (.deferred none)) (by intro e; simp at e; omega)).cell
      have c9 := (bE6.kept (grownBy_putObj' _ D (.deferred none)) (by intro e; simp at e; omega)).cell
      refine ⟨by simp, .inl ⟨_, _, rfl, run_takeDeferred hK, ?_⟩⟩
      refine ⟨.tuple #[.string (runesBytes (sprL A L p k last.1)), .int .i64 0], ?_, by rw [he, HFS.out], Ext.putObj hX (by omega) hK rfl rfl _⟩
      simp [results, Tryd.f14, go_sem, c8, c9]
  · rw [show backS A s p k = ⟨#[]⟩ from if_neg h0]
    have HSG := Lib.hid (hsg.mono fun e w' h => (⟨h.2.1 h0, h.2.2⟩ : _ ∧ Ext _ w'))
    have gE : (signE A s [p, k] != 0) = true := by rw [bne_iff_ne]; exact h0
    obtain ⟨d0, d1, l0⟩ := HBX.out _ hx5
    have cP := bP.cell
    have cK := bK.cell
    clear hsg h0
    refine (callsIn_wide (n := 8)).1 ?_
    refine callsIn_of_wp_marks Tryd.func14 rfl trivial ?_ rfl
    simp only [Tryd.ntmps14, List.size_toArray, List.length_cons, List.length_nil, Nat.reduceAdd, Nat.reduceSub, Array.replicate_succ, Array.replicate_zero, List.push_toArray, List.append_toArray, List.nil_append, List.cons_append]
    gi_wp2_with (refine ⟨trivial, ?_⟩; gi_at_call 29; refine (callsIn_wide.2 HSG.out).mono ?_; rintro e w1 ⟨rfl, hx1⟩; have h51 := ((Ext.refl W5).alloc _).trans hx1; have bS1 := boxX bS h51; have bE1 := boxX bE h51; have cS := bS1.cell; have fS := bS1.frozen; have cE := bE1.cell; have fE := bE1.frozen; have l3 := bS1.lt; have l4 := bE1.lt)
    have c8 := (((bS1.set (.string ⟨#[]⟩)).other (B' := w.heap.size + 1 + 1 + 1 + 1) (by omega) (.int .i64 (signE A s [p, k]))).alloc (.cells #[.slice none 0 0] 24)).cell
    have c9 := (((bE1.other (B' := w.heap.size + 1 + 1 + 1) (by omega) (.string ⟨#[]⟩)).set (.int .i64 (signE A s [p, k]))).alloc (.cells #[.slice none 0 0] 24)).cell
    refine ⟨.tuple #[.string ⟨#[]⟩, .int .i64 (signE A s [p, k])], ?_, rfl, ((((hx0.trans h51).setCell (by simp; omega) _).setCell (by simp; omega) _).alloc _)⟩
    simp [results, Tryd.f14, go_sem, c8, c9]
end Go.Proofs.YtcnjgfadihimiaaDoor

namespace Go.Cg
open Go.RowKit Go.Lib
theorem masks_three {W : World} {T : TypeId} {a b c : Nat} (ha : a < 4294967296) (hb : b < 4294967296) (hc : c < 4294967296) : MasksAt (W.alloc (.cells #[.int .u32 (a : Int), .int .u32 (b : Int), .int .u32 (c : Int)] T (0, 0))) (some ⟨W.heap.size, 0, none⟩) [a, b, c] := by
  refine ⟨.inr ⟨W.heap.size, 0, rfl, (Ext.refl (W.alloc (.cells #[.int .u32 (a : Int), .int .u32 (b : Int), .int .u32 (c : Int)] T (0, 0)))).lt0, fun j hj => ?_⟩, fun j hj => ?_⟩
  · rw [Nat.zero_add, (Ext.refl (W.alloc (.cells #[.int .u32 (a : Int), .int .u32 (b : Int), .int .u32 (c : Int)] T (0, 0)))).cell0 j]
    match j, hj with
    | 0, _ => rfl
    | 1, _ => rfl
    | 2, _ => rfl
  · match j, hj with
    | 0, _ => exact ha
    | 1, _ => exact hb
    | 2, _ => exact hc
/-- the nearest one of a class to the right, when r letters have been walked from the end -/
def nxtR (L : List Letter) (c : Nat) : Nat → Option Nat
  | 0 => none
  | r + 1 => if ofB (la L (L.length - 1 - r)) c = true then some (L.length - 1 - r) else nxtR L c r
theorem nxtR_lt {L : List Letter} {c : Nat} : ∀ {r j : Nat}, r ≤ L.length → nxtR L c r = some j → j < L.length
  | 0, _, _, h => by cases h
  | r + 1, j, hr, h => by
    unfold nxtR at h
    split at h
    · simp at h; omega
    · exact nxtR_lt (by omega) h
/-- letter i where letters meet -/
def metO (A : Alpha) (L : List Letter) (p k i : Nat) : Option Nat → Int
  | some j => if ofB (la L i) p = true then takR A (la L i) (la L j) k else (la L i).rune
  | none => (la L i).rune
def metR (A : Alpha) (L : List Letter) (p c k i : Nat) : Int := metO A L p k i (nxtR L c (L.length - 1 - i))
def metL (A : Alpha) (L : List Letter) (p c k : Nat) : List Int := (List.range L.length).map (metR A L p c k)
theorem metL_len (A : Alpha) (L : List Letter) (p c k : Nat) : (metL A L p c k).length = L.length := by simp [metL]
theorem metL_at (A : Alpha) (L : List Letter) (p c k : Nat) {i : Nat} (h : i < L.length) : rn (metL A L p c k) i = metR A L p c k i := by
  rw [rn_eq (by rw [metL_len]; exact h)]; simp [metL]
def meetS (A : Alpha) (s : ByteArray) (p c k : Nat) : ByteArray := if signE A s [p, c, k] = 0 then runesBytes (metL A (sgn A s) p c k) else ⟨#[]⟩
theorem metR_range {w : World} {fp lp : Option Addr} {A : Alpha} (hA : AlphaAt w fp lp A) {L : List Letter} (hw : ∀ i, i < L.length → (la L i).wf) (p c k : Nat) {i : Nat} (hi : i < L.length) : -2147483648 ≤ metR A L p c k i ∧ metR A L p c k i ≤ 2147483647 := by
  unfold metR metO
  split
  · split
    · exact takR_range hA (hw i hi) k
    · exact ⟨(hw i hi).1, (hw i hi).2.1⟩
  · exact ⟨(hw i hi).1, (hw i hi).2.1⟩
/-- 'the next one' as a number -/
def nxV : Option Nat → Int
  | some j => j
  | none => -1
/-- what holds between two rounds -/
def MeetI (A : Alpha) (L : List Letter) (p c k : Nat) (Wl : World) (o : Nat) (tr ts ti : TypeId) (pre : List {i : Nat // i < L.length}) (W : World) : Prop :=
  ∃ (nx : Option Nat) (f : Nat → Value), (∀ j, nx = some j → j < L.length) ∧ Boxed W (o + 1 + 1) ti (.int .i64 (nxV nx)) ∧ Boxed W (o + 1) ts (.slice (some ⟨o, 0, none⟩) L.length L.length) ∧ W.rowIs o tr L.length f ∧ Ext Wl W ∧ o + 1 + 1 + 1 < W.heap.size ∧
    (pre.map Subtype.val = downs L.length pre.length → nx = nxtR L c pre.length ∧ ∀ x ∈ pre, f x.1 = .int .i32 (metR A L p c k x.1))
theorem rowIs_own {W W' : World} {row : Option Nat} {b n : Nat} {t : TypeId} {f : Nat → Value} (h : W.rowIs b t n f) (hg : W.grownBy W' row) (hr : ∀ r, row = some r → ∃ o : Obj, W.heap[r]? = some o ∧ o.isCells = false) : W'.rowIs b t n f := by
  obtain ⟨cs, h1, h2, h3⟩ := h
  exact ⟨cs, cells_own b (fun (_ : Unit) => .cells cs t (0, 0)) (fun _ => rfl) () W W' row h1 hg hr, h2, h3⟩
theorem MeetI.own {A : Alpha} {L : List Letter} {p c k o B : Nat} {Wl : World} {tr ts ti : TypeId} (hB : Wl.heap.size ≤ B) : OwnFrom B (MeetI A L p c k Wl o tr ts ti) := fun s X Y row hs hg hr => by
  obtain ⟨nx, f, h1, h2, h3, h4, h5, h7, h6⟩ := hs
  exact ⟨nx, f, h1, boxed_own _ _ (fun (_ : Unit) => _) () X Y row h2 hg (fun r e => (hr r e).2), boxed_own _ _ (fun (_ : Unit) => _) () X Y row h3 hg (fun r e => (hr r e).2), rowIs_own h4 hg (fun r e => (hr r e).2), ownFrom_ext hB () X Y row h5 hg hr, Nat.lt_of_lt_of_le h7 hg.size, h6⟩
/-- a round's state, from its start Ws on -/
structure MSt (n : Nat) (tr ts ti tx : TypeId) (Wl Ws : World) (B o Bx : Nat) (x : Letter) (z : Int) (f : Nat → Value) (W : World) : Prop where
  nx : Boxed W (o + 1 + 1) ti (.int .i64 z)
  out : Boxed W (o + 1) ts (.slice (some ⟨o, 0, none⟩) n n)
  row : W.rowIs o tr n f
  ext : Ext Wl W
  keeps : KeepsFrom B Ws W
  kp : KpB o (o + 1 + 1 + 1) Ws W
  big : o + 1 + 1 + 1 < W.heap.size
  bx : W.heap[Bx]? = some (.cells #[.int .i32 x.rune, .int .u32 (x.plus : Int), .int .u32 (x.minus : Int)] tx (0, 0))
section
variable {n : Nat} {tr ts ti tx : TypeId} {Wl Ws W W' : World} {B o Bx : Nat} {x : Letter} {z : Int} {f : Nat → Value}
theorem MSt.step (h : MSt n tr ts ti tx Wl Ws B o Bx x z f W) (hx : Ext W W') : MSt n tr ts ti tx Wl Ws B o Bx x z f W' :=
  ⟨boxX h.nx hx, boxX h.out hx, rowX h.row hx, h.ext.trans hx, h.keeps.trans (keeps_of_ext hx), kpB_t h.kp (kpB_ext hx (by have := h.big; omega) h.big), Nat.lt_of_lt_of_le h.big hx.le, (hx.block Bx (Array.getElem?_eq_some_iff.1 h.bx).1).trans h.bx⟩
theorem MSt.put (hW : Wl.heap.size = o) (hB : o + 1 + 1 + 1 < Bx) (h : MSt n tr ts ti tx Wl Ws B o Bx x z f W) (j : Nat) (v : Value) : MSt n tr ts ti tx Wl Ws B o Bx x z (fun i => if i = j then v else f i) (W.setCell ⟨o, j, none⟩ v) :=
  ⟨(Below.heap_setCell _ _ _ _ (by simp; omega)).trans h.nx, (Below.heap_setCell _ _ _ _ (by simp)).trans h.out, h.row.set j v, h.ext.setCell (by simp [hW]) v, h.keeps.trans ((KeepsOthers.setCell _ _ _).from _), ⟨h.kp.1.setCell (p := ⟨o, j, none⟩) (Nat.le_refl _) v, (Below.heap_setCell _ _ _ _ (by simp; omega)).trans h.kp.2⟩, by rw [size_setCell]; exact h.big, (Below.heap_setCell _ _ _ _ (by simp; omega)).trans h.bx⟩
theorem MSt.next (hW : Wl.heap.size = o) (hB : o + 1 + 1 + 1 < Bx) (h : MSt n tr ts ti tx Wl Ws B o Bx x z f W) (z' : Int) : MSt n tr ts ti tx Wl Ws B o Bx x z' f (W.setCell ⟨o + 1 + 1, 0, none⟩ (.int .i64 z')) :=
  ⟨h.nx.set _, (Below.heap_setCell _ _ _ _ (by simp)).trans h.out, h.row.setOther (by simp; omega) _, h.ext.setCell (by simp [hW]; omega) _, h.keeps.trans ((KeepsOthers.setCell _ _ _).from _), ⟨h.kp.1.setCell (p := ⟨o + 1 + 1, 0, none⟩) (by show o ≤ o + 1 + 1; omega) _, (Below.heap_setCell _ _ _ _ (by simp)).trans h.kp.2⟩, by rw [size_setCell]; exact h.big, (Below.heap_setCell _ _ _ _ (by simp; omega)).trans h.bx⟩
end
/-- a round's step -/
theorem meet_step {A : Alpha} {L : List Letter} {p c k : Nat} {pre : List {i : Nat // i < L.length}} {x : {i : Nat // i < L.length}} {nx : Option Nat} {f : Nat → Value}
    (h : pre.map Subtype.val = downs L.length pre.length → nx = nxtR L c pre.length ∧ ∀ x ∈ pre, f x.1 = .int .i32 (metR A L p c k x.1)) (hlen : pre.length < L.length) {v : Int} (hv : v = metO A L p k x.1 nx) :
    (pre ++ [x]).map Subtype.val = downs L.length (pre ++ [x]).length → (if ofB (la L x.1) c = true then some x.1 else nx) = nxtR L c (pre ++ [x]).length ∧ ∀ y ∈ pre ++ [x], (fun i => if i = x.1 then Value.int .i32 v else f i) y.1 = .int .i32 (metR A L p c k y.1) := by
  intro e
  rw [List.length_append, List.length_singleton, downs_succ, List.map_append] at e
  obtain ⟨e1, e2⟩ := List.append_inj' e rfl
  have e3 : x.1 = L.length - 1 - pre.length := by simpa using e2
  obtain ⟨h1, h2⟩ := h e1
  have hx := x.2
  refine ⟨?_, ?_⟩
  · rw [List.length_append, List.length_singleton]
    unfold nxtR
    rw [← e3, h1]
  · intro y hy
    by_cases hyx : y.1 = x.1
    · simp only [hyx, if_true]
      rw [hv, h1]
      unfold metR
      rw [show L.length - 1 - x.1 = pre.length by omega]
    · simp only [hyx, if_false]
      rcases List.mem_append.1 hy with h3 | h3
      · exact h2 y h3
      · simp at h3; exact (hyx (by rw [h3])).elim
theorem meet_all {A : Alpha} {L : List Letter} {p c k : Nat} {ys : List {i : Nat // i < L.length}} {f : Nat → Value} (hys : ys.map Subtype.val = downs L.length L.length) (h : ∀ x ∈ ys, f x.1 = .int .i32 (metR A L p c k x.1)) {t : Nat} (ht : t < L.length) :
    f t = .int .i32 (metR A L p c k t) := by
  have : t ∈ ys.map Subtype.val := by
    rw [hys]; unfold downs
    exact List.mem_map.2 ⟨L.length - 1 - t, List.mem_range.2 (by omega), by omega⟩
  obtain ⟨y, hy, e⟩ := List.mem_map.1 this
  rw [← e]; exact h y hy
end Go.Cg
namespace Go.Proofs.YtcnjgfadihimiaaDoor
open Go.RowKit Go.Cg Go.Shelf Go.Maps

attribute [local go_sem] Oper.semAt_some

set_option maxRecDepth 100000 in
set_option maxHeartbeats 4000000 in
theorem meet_any (fp lp : Option Addr) (fc lc : Nat) (A : Alpha) (s : ByteArray) (hs : s.size ≤ 140737488351232) (p c k : Nat) (hp : p < 4294967296) (hc : c < 4294967296) (hk : k < 4294967296) (w : World) (hA : AlphaAt w fp lp A) (hTb : Tabs w) :
    Calls Tryd.prog 16 #[.agg #[.slice fp A.feats.length fc, .slice lp A.lets.length lc], .string s, .int .u32 p, .int .u32 c, .int .u32 k] w fun e w' => e = .returned (.tuple #[.string (meetS A s p c k), .int .i64 (signE A s [p, c, k])]) ∧ Ext w w' := by
  have HSG := Lib.hid (fun W b (hW : Ext w W) (hb : W.heap.size = b) => (by
    subst hb
    exact signs_any fp lp (some ⟨W.heap.size, 0, none⟩) fc lc 3 A s hs [p, c, k] (by simp) (W.alloc (.cells #[.int .u32 (p : Int), .int .u32 (c : Int), .int .u32 (k : Int)] 32)) (hA.mono (hW.alloc _)) (masks_three hp hc hk) (hTb.ext (hW.alloc _)) :
      Calls Tryd.prog 29 #[.agg #[.slice fp A.feats.length fc, .slice lp A.lets.length lc], .string s, .slice (some ⟨b, 0, none⟩) 3 3] (W.alloc (.cells #[.int .u32 (p : Int), .int .u32 (c : Int), .int .u32 (k : Int)] 32)) _))
  have bP := (((Boxed.new (w.alloc (.cells #[.slice fp A.feats.length fc, .slice lp A.lets.length lc] 26)) 32 (.int .u32 (p : Int))).alloc (.cells #[.int .u32 (c : Int)] 32)).alloc (.cells #[.int .u32 (k : Int)] 32))
  have bC := ((Boxed.new ((w.alloc (.cells #[.slice fp A.feats.length fc, .slice lp A.lets.length lc] 26)).alloc (.cells #[.int .u32 (p : Int)] 32)) 32 (.int .u32 (c : Int))).alloc (.cells #[.int .u32 (k : Int)] 32))
  have bK := (Boxed.new (((w.alloc (.cells #[.slice fp A.feats.length fc, .slice lp A.lets.length lc] 26)).alloc (.cells #[.int .u32 (p : Int)] 32)).alloc (.cells #[.int .u32 (c : Int)] 32)) 32 (.int .u32 (k : Int)))
  have hx5 : Ext (w.alloc (.cells #[.slice fp A.feats.length fc, .slice lp A.lets.length lc] 26)) ((((w.alloc (.cells #[.slice fp A.feats.length fc, .slice lp A.lets.length lc] 26)).alloc (.cells #[.int .u32 (p : Int)] 32)).alloc (.cells #[.int .u32 (c : Int)] 32)).alloc (.cells #[.int .u32 (k : Int)] 32)) := (((Ext.refl _).alloc _).alloc _).alloc _
  have hsz : ((((w.alloc (.cells #[.slice fp A.feats.length fc, .slice lp A.lets.length lc] 26)).alloc (.cells #[.int .u32 (p : Int)] 32)).alloc (.cells #[.int .u32 (c : Int)] 32)).alloc (.cells #[.int .u32 (k : Int)] 32)).heap.size = w.heap.size + 1 + 1 + 1 + 1 := by simp only [World.size_alloc]
  simp only [World.size_alloc] at bP bC bK
  obtain ⟨W5, hW5⟩ : ∃ W5, (((w.alloc (.cells #[.slice fp A.feats.length fc, .slice lp A.lets.length lc] 26)).alloc (.cells #[.int .u32 (p : Int)] 32)).alloc (.cells #[.int .u32 (c : Int)] 32)).alloc (.cells #[.int .u32 (k : Int)] 32) = W5 := ⟨_, rfl⟩
  rw [hW5] at bP bC bK hx5 hsz
  have HBX := Lib.hid (fun W (hW : Ext (w.alloc (.cells #[.slice fp A.feats.length fc, .slice lp A.lets.length lc] 26)) W) => (⟨hW.cell0 0, hW.cell0 1, hW.lt0⟩ : W.cell? ⟨w.heap.size, 0, none⟩ = some (.slice fp A.feats.length fc) ∧ W.cell? ⟨w.heap.size, 1, none⟩ = some (.slice lp A.lets.length lc) ∧ w.heap.size < W.heap.size))
  have hx0 : Ext w W5 := hx5.box
  have hsg := HSG.out W5 _ hx0 hsz
  clear HSG
  obtain ⟨d0, d1, l0⟩ := HBX.out _ hx5
  have cP := bP.cell
  have cC := bC.cell
  have cK := bK.cell
  by_cases h0 : signE A s [p, c, k] = 0
  · rw [h0]
    have hl0 := (signE_zero h0).1
    have h64 := sgn_len hl0
    have hwf := sgn_wf hA hl0
    have hof := fun i (hi : i < (sgn A s).length) (q : Nat) (hq : q < 4294967296) W => (show Calls Tryd.prog 30 #[.agg #[.int .i32 (la (sgn A s) i).rune, .int .u32 ((la (sgn A s) i).plus : Int), .int .u32 ((la (sgn A s) i).minus : Int)], .int .u32 q] W fun e W' => e = .returned (.bool (ofB (la (sgn A s) i) q)) ∧ Ext W W' from hof_any _ _ _ q (hwf i hi).2.2.1 hq W)
    have hta := fun i (hi : i < (sgn A s).length) j (hj : j < (sgn A s).length) W (hW : Ext w W) => takes_any fp lp fc lc A (la (sgn A s) i) (la (sgn A s) j) k (hwf i hi) (hwf j hj) hk W (hA.mono hW)
    have hrg := fun t (ht : t < (sgn A s).length) => metR_range hA hwf p c k ht
    have hbk : meetS A s p c k = runesBytes (metL A (sgn A s) p c k) := if_pos h0
    rw [hbk]
    have HSG := Lib.hid (hsg.mono fun e w' h => (⟨h.1 h0, h.2.2⟩ : _ ∧ Ext _ w'))
    obtain ⟨L, hL⟩ : ∃ L, sgn A s = L := ⟨_, rfl⟩
    rw [hL] at h64 hwf hof hta hrg HSG ⊢
    have HOF := Lib.hid hof
    have HTA := Lib.hid hta
    have HRG := Lib.hid hrg
    have HWF := Lib.hid hwf
    have hmk := fun W => run_make_row' (P := Tryd.prog) 41 21 (.int .i32 0) 4 Tryd.underlying41 infoRu rfl .i64 .i64 L.length (by omega) (by omega) W
    clear hsg h0 hl0 hwf hof hta hrg hbk hL
    refine (callsIn_wide (n := 8)).1 ?_
    refine callsIn_of_wp_marks Tryd.func16 rfl trivial ?_ rfl
    simp only [Tryd.ntmps16, List.size_toArray, List.length_cons, List.length_nil, Nat.reduceAdd, Nat.reduceSub, Array.replicate_succ, Array.replicate_zero, List.push_toArray, List.append_toArray, List.nil_append, List.cons_append]
    gi_wp2_with (refine ⟨trivial, ?_⟩; gi_at_call 29; refine (callsIn_wide.2 HSG.out).mono ?_; rintro e w1 ⟨⟨g, rfl, hgw, hrow⟩, hx1⟩)
    gi_wp2_with (refine ⟨trivial, ?_⟩; gi_at_call 32; refine (backward_in _ _ _ _ _).mono ?_; rintro e w' ⟨rfl, rfl⟩)
    have hLR0 := LetRow.of_row hrow HWF.out
    have h51 : Ext W5 w1 := ((Ext.refl W5).alloc _).trans hx1
    have g1 := hLR0.lt
    clear hrow hgw hx1 HSG
    have bL0 := Boxed.new w1 24 (.slice (some ⟨g, 0, none⟩) L.length L.length)
    have hR0 := World.rowIs_made (w1.alloc (.cells #[.slice (some ⟨g, 0, none⟩) L.length L.length] 24)) (.int .i32 0) L.length 21
    rw [World.size_alloc] at hR0
    have hlx : Ext w1 (w1.alloc (.cells #[.slice (some ⟨g, 0, none⟩) L.length L.length] 24)) := (Ext.refl _).alloc _
    have hls : (w1.alloc (.cells #[.slice (some ⟨g, 0, none⟩) L.length L.length] 24)).heap.size = w1.heap.size + 1 := World.size_alloc _ _
    obtain ⟨Wl, hWl⟩ : ∃ Wl, w1.alloc (.cells #[.slice (some ⟨g, 0, none⟩) L.length L.length] 24) = Wl := ⟨_, rfl⟩
    rw [hWl] at bL0 hR0 hlx hls ⊢
    obtain ⟨o, ho⟩ : ∃ o, w1.heap.size + 1 = o := ⟨_, rfl⟩
    rw [ho] at hR0 hls ⊢
    have hR1 := ((hR0.alloc (.cells #[.slice (some ⟨o, 0, none⟩) L.length L.length] 41)).alloc (.cells #[.int .i64 (-1)] 3)).alloc (.cells #[.slice (some ⟨g, 0, none⟩) L.length L.length] 24)
    have bO := ((Boxed.new (Wl.alloc (.cells (madeCells #[.int .i32 0] L.length) 21)) 41 (.slice (some ⟨o, 0, none⟩) L.length L.length)).alloc (.cells #[.int .i64 (-1)] 3)).alloc (.cells #[.slice (some ⟨g, 0, none⟩) L.length L.length] 24)
    have bN := (Boxed.new ((Wl.alloc (.cells (madeCells #[.int .i32 0] L.length) 21)).alloc (.cells #[.slice (some ⟨o, 0, none⟩) L.length L.length] 41)) 3 (.int .i64 (-1))).alloc (.cells #[.slice (some ⟨g, 0, none⟩) L.length L.length] 24)
    have bB := Boxed.new (((Wl.alloc (.cells (madeCells #[.int .i32 0] L.length) 21)).alloc (.cells #[.slice (some ⟨o, 0, none⟩) L.length L.length] 41)).alloc (.cells #[.int .i64 (-1)] 3)) 24 (.slice (some ⟨g, 0, none⟩) L.length L.length)
    simp only [World.size_alloc, hls] at bO bN bB
    have hx10 : Ext Wl ((((Wl.alloc (.cells (madeCells #[.int .i32 0] L.length) 21)).alloc (.cells #[.slice (some ⟨o, 0, none⟩) L.length L.length] 41)).alloc (.cells #[.int .i64 (-1)] 3)).alloc (.cells #[.slice (some ⟨g, 0, none⟩) L.length L.length] 24)) := ((((Ext.refl _).alloc _).alloc _).alloc _).alloc _
    have hs0 : ((((Wl.alloc (.cells (madeCells #[.int .i32 0] L.length) 21)).alloc (.cells #[.slice (some ⟨o, 0, none⟩) L.length L.length] 41)).alloc (.cells #[.int .i64 (-1)] 3)).alloc (.cells #[.slice (some ⟨g, 0, none⟩) L.length L.length] 24)).heap.size = o + 1 + 1 + 1 + 1 := by simp only [World.size_alloc, hls]
    obtain ⟨W0, hW0⟩ : ∃ W0, (((Wl.alloc (.cells (madeCells #[.int .i32 0] L.length) 21)).alloc (.cells #[.slice (some ⟨o, 0, none⟩) L.length L.length] 41)).alloc (.cells #[.int .i64 (-1)] 3)).alloc (.cells #[.slice (some ⟨g, 0, none⟩) L.length L.length] 24) = W0 := ⟨_, rfl⟩
    rw [hW0] at hR1 bO bN bB hx10 hs0 ⊢
    clear hW0 hW5 hWl hR0
    have hL0 := hLR0.ext hlx
    have hw0 := hx0.trans (h51.trans hlx)
    have hB0 := (hx5.trans h51).trans hlx
    have bP0 := boxX (boxX bP h51) hlx
    have bC0 := boxX (boxX bC h51) hlx
    have bK0 := boxX (boxX bK h51) hlx
    have h15 := h51.le
    clear bP bC bK hLR0 hx0 hx5 d0 d1 l0 cP cC cK h51 hlx
    have gl : g < o := by omega
    have HBX2 := Lib.hid (fun W (hW : Ext Wl W) => HBX.out W (hB0.trans hW))
    clear HBX
    refine wpIn_rangeFunc_ownH rfl (by omega) (gf := 54) (lb := #[.pointer (some ⟨o + 1 + 1 + 1, 0, none⟩)]) rfl trivial (enters_of Tryd.func54 (by kernel_rfl) rfl)
      (back_stops _ (o + 1 + 1 + 1) o g (by omega) L h64 W0 (by omega) gl (by omega) bB.cell (hL0.ext hx10)) kpB_t (kpB_b (by omega) (by omega)) (Below.refl _ _) (fun _ => rfl)
      (MeetI A L p c k Wl o 21 41 3)
      (fun _ _ _ => False)
      (MeetI.own (by omega))
      (fun _ _ _ _ _ hs _ _ => hs)
      ⟨none, _, fun j h => (by cases h), bN, bO, hR1, hx10, by omega, fun _ => ⟨rfl, fun x hx => by cases hx⟩⟩
      (fun x a' W => ∃ Bx, o + 1 + 1 + 1 < Bx ∧ W.heap[Bx]? = some (.cells #[.int .i32 (la L x.1).rune, .int .u32 ((la L x.1).plus : Int), .int .u32 ((la L x.1).minus : Int)] 52 (0, 0)) ∧ a' = { tmps := #[.agg #[.slice fp A.feats.length fc, .slice lp A.lets.length lc], .string s, .int .u32 p, .int .u32 c, .int .u32 k, .pointer (some ⟨w.heap.size, 0, none⟩), undef, .pointer (some ⟨w.heap.size + 1, 0, none⟩), .pointer (some ⟨w.heap.size + 1 + 1, 0, none⟩), .pointer (some ⟨w.heap.size + 1 + 1 + 1, 0, none⟩), .string ⟨#[]⟩, .int .i64 0, .pointer (some ⟨w1.heap.size, 0, none⟩), .int .i64 0, .pointer (some ⟨o + 1, 0, none⟩), .pointer (some ⟨o + 1 + 1, 0, none⟩), .int .i64 (x.1 : Int), .pointer (some ⟨Bx, 0, none⟩), .tuple #[.slice (some ⟨g, 0, none⟩) L.length L.length, .int .i64 0], .agg #[.slice fp A.feats.length fc, .slice lp A.lets.length lc], .string s, .int .u32 p, .int .u32 c, .int .u32 k, .slice (some ⟨w.heap.size + 1 + 1 + 1 + 1, 0, none⟩) 3 3, .tuple #[.slice (some ⟨g, 0, none⟩) L.length L.length, .int .i64 0], .slice (some ⟨g, 0, none⟩) L.length L.length, .int .i64 0, .int .i64 0, .bool false, undef, .slice (some ⟨g, 0, none⟩) L.length L.length, .int .i64 L.length, .slice (some ⟨o, 0, none⟩) L.length L.length, .slice (some ⟨g, 0, none⟩) L.length L.length, .func (.func 54) #[] #[.pointer (some ⟨o + 1 + 1 + 1, 0, none⟩)], .int .i64 (x.1 : Int), .agg #[.int .i32 (la L x.1).rune, .int .u32 ((la L x.1).plus : Int), .int .u32 ((la L x.1).minus : Int)], undef, undef, undef, undef, undef, undef, undef, undef, undef, undef, undef, undef, undef, undef, undef, undef, undef, undef, undef, undef, undef, undef, undef, undef, undef, undef, undef, undef, undef], defers := [] })
      (fun x a' _ X Y row hs hg hr => by
        obtain ⟨Bx, h1, h2, h3⟩ := hs
        exact ⟨Bx, h1, cells_own Bx (fun (_ : Unit) => .cells #[.int .i32 (la L x.1).rune, .int .u32 ((la L x.1).plus : Int), .int .u32 ((la L x.1).minus : Int)] 52 (0, 0)) (fun _ => rfl) () X Y row h2 hg (fun r e => (hr r e).2), h3⟩)
      ?assign ?body ?done ?stop
    case assign =>
      rintro lo pre x W K ⟨nx, f, h1, h2, h3, h4, h5, h7, h6⟩ hK
      have hbig : o + 1 + 1 < W.heap.size := h2.lt
      simp only [lencs]
      gi_wp2
      exact hK _ _ (keeps_of_ext ((Ext.refl W).alloc _)) (kpB_ext ((Ext.refl W).alloc _) (by omega) h7) ⟨nx, f, h1, h2.alloc _, h3.alloc _, h4.alloc _, h5.alloc _, (by rw [World.size_alloc]; omega), h6⟩ ⟨W.heap.size, h7, World.alloc_heap_new _ _, rfl⟩
    case body =>
      rintro lo pre ⟨j, hj⟩ a' W hlo _ ⟨nx, f, h1, h2, h3, h4, h5, h7, h6⟩ ⟨Bx, hBx, hbx, rfl⟩ hlen
      have m0 : MSt L.length 21 41 3 52 Wl W W0.heap.size o Bx (la L j) (nxV nx) f W := ⟨h2, h3, h4, h5, KeepsFrom.refl _ _, ⟨Below.refl _ _, rfl⟩, h7, hbx⟩
      have cP := (boxX bP0 h5).cell
      have cC := (boxX bC0 h5).cell
      have pl := (boxX bP0 h5).lt
      have x0 := cell_of (j := 0) hbx rfl
      have x1 := cell_of (j := 1) hbx rfl
      have x2 := cell_of (j := 2) hbx rfl
      have r0 := h4.cell (i := j) hj
      have f0 := h4.frozen j
      have lo0 := h4.lt
      have o0 := m0.out.cell
      have n0 := m0.nx.cell
      have m1 := m0.put hls hBx j (.int .i32 (la L j).rune)
      have HOP := Lib.hid (HOF.out j hj p hp)
      have HOC := Lib.hid (HOF.out j hj c hc)
      have hd : 1 ≤ 8 - 1 - 1 := by omega
      have jb : j < 64 := by omega
      cases nx with
      | none =>
        obtain ⟨z, hz⟩ : ∃ z, nxV none = z := ⟨_, rfl⟩
        have hz1 : z = -1 := hz.symm
        rw [hz] at n0 m1
        clear m0 h2 hz
        gi_wp2
        refine ⟨trivial, ?_⟩
        gi_wp2
        refine ⟨trivial, ?_⟩
        refine (CallsIn.inRound lo (callsIn_wide.2 (HOC.out _))).mono ?_
        rintro e w9 ⟨rfl, hx9⟩
        have m9 := m1.step hx9
        have hst := meet_step (A := A) (c := c) (k := k) (p := p) (x := ⟨j, hj⟩) h6 hlen (v := (la L j).rune) rfl
        cases hC : ofB (la L j) c
        · simp only [hC, Bool.false_eq_true, ↓reduceIte] at hst
          gi_wp2
          exact ⟨m9.keeps, m9.kp, _, _, h1, (by have := m9.nx; rw [hz1] at this; exact this), m9.out, m9.row, m9.ext, m9.big, hst⟩
        · simp only [hC, ↓reduceIte] at hst
          have n9 := m9.nx.cell
          have g9 := m9.nx.frozen
          gi_wp2
          have m10 := m9.next hls hBx (j : Int)
          exact ⟨m10.keeps, m10.kp, some j, _, fun i hi => (by cases hi; exact hj), m10.nx, m10.out, m10.row, m10.ext, m10.big, hst⟩
      | some jn =>
        have hjn := h1 jn rfl
        have n1 : W.cell? ⟨o + 1 + 1, 0, none⟩ = some (.int .i64 (jn : Int)) := n0
        have jnb : jn < 64 := by omega
        clear n0
        gi_wp2
        refine ⟨trivial, ?_⟩
        refine (CallsIn.inRound lo (callsIn_wide.2 (HOP.out _))).mono ?_
        rintro e w5 ⟨rfl, hx5⟩
        have m5 := m1.step hx5
        have cP5 := (boxX bP0 m5.ext).cell
        have cC5 := (boxX bC0 m5.ext).cell
        have p5 := (boxX bP0 m5.ext).lt
        have y0 := cell_of (j := 0) m5.bx rfl
        have y1 := cell_of (j := 1) m5.bx rfl
        have y2 := cell_of (j := 2) m5.bx rfl
        clear x0 x1 x2 r0 f0 lo0 o0 n1 cP cC pl m0 m1 h2 h3 h4 h5 h7
        cases hB : ofB (la L j) p
        · gi_wp2
          refine ⟨trivial, ?_⟩
          refine (CallsIn.inRound lo (callsIn_wide.2 (HOC.out _))).mono ?_
          rintro e w9 ⟨rfl, hx9⟩
          have m9 := m5.step hx9
          have hst := meet_step (A := A) (c := c) (k := k) (p := p) (x := ⟨j, hj⟩) h6 hlen (v := (la L j).rune) (by simp [metO, hB])
          cases hC : ofB (la L j) c
          · simp only [hC, Bool.false_eq_true, ↓reduceIte] at hst
            gi_wp2
            exact ⟨m9.keeps, m9.kp, _, _, h1, m9.nx, m9.out, m9.row, m9.ext, m9.big, hst⟩
          · simp only [hC, ↓reduceIte] at hst
            have n9 := m9.nx.cell
            have g9 := m9.nx.frozen
            gi_wp2
            have m10 := m9.next hls hBx (j : Int)
            exact ⟨m10.keeps, m10.kp, some j, _, fun i hi => (by cases hi; exact hj), m10.nx, m10.out, m10.row, m10.ext, m10.big, hst⟩
        · have cK5 := (boxX bK0 m5.ext).cell
          have cL5 := (boxX bL0 m5.ext).cell
          have o5 := m5.out.cell
          have n5 : w5.cell? ⟨o + 1 + 1, 0, none⟩ = some (.int .i64 (jn : Int)) := m5.nx.cell
          obtain ⟨d0, d1, l0⟩ := HBX2.out _ m5.ext
          obtain ⟨q0, q1, q2⟩ := (hL0.ext m5.ext).cell jn hjn
          have lgz := (hL0.ext m5.ext).lt
          have HT := Lib.hid (HTA.out j hj jn hjn)
          gi_wp2
          (refine wpIn_region_ext_tail 11 (by kernel_rfl) (by kernel_rfl) (by kernel_rfl) (by rintro ⟨_, _, h⟩; exact h) ?_; intro ι hι g hg; simp only [List.take_succ_cons, List.take_zero, List.drop_succ_cons, List.drop_zero]; have q_o5 := hg.cell o5; have q_d0 := hg.cell d0; have q_d1 := hg.cell d1; have q_y0 := hg.cell y0; have q_y1 := hg.cell y1; have q_y2 := hg.cell y2; have q_cL5 := hg.cell cL5; have q_n5 := hg.cell n5; have q_q0 := hg.cell q0; have q_q1 := hg.cell q1; have q_q2 := hg.cell q2; have q_cK5 := hg.cell cK5; clear o5 d0 d1 y0 y1 y2 cL5 n5 q0 q1 q2 cK5; (repeat (go_big_quiet_step ((go_at_call 38; exact hg.call (HT.out _ ((hw0.trans m5.ext).trans (hg.ext _))))))); refine wpQuiet_nil ?_; rintro w8 ⟨i2, rfl⟩; have hq := hg.ext i2; generalize g i2 = w8 at hq ⊢; clear q_o5 q_d0 q_d1 q_y0 q_y1 q_y2 q_cL5 q_n5 q_q0 q_q1 q_q2 q_cK5 i2 hg g hι ι)
          have m8 := m5.step hq
          have r8 := m8.row.cell (i := j) hj
          have f8 := m8.row.frozen j
          have lo8 := m8.row.lt
          have cC8 := (boxX bC0 m8.ext).cell
          have p8 := (boxX bC0 m8.ext).lt
          have z0 := cell_of (j := 0) m8.bx rfl
          have z1 := cell_of (j := 1) m8.bx rfl
          have z2 := cell_of (j := 2) m8.bx rfl
          have m9 := m8.put hls hBx j (.int .i32 (takR A (la L j) (la L jn) k))
          have e9 : (fun i => if i = j then Value.int .i32 (takR A (la L j) (la L jn) k) else (if i = j then Value.int .i32 (la L j).rune else f i)) = fun i => if i = j then Value.int .i32 (takR A (la L j) (la L jn) k) else f i := by funext i; split <;> rfl
          rw [e9] at m9
          clear m5 cP5 cC5 p5
          go_wp2_with fail
          gi_wp2
          refine ⟨trivial, ?_⟩
          refine (CallsIn.inRound lo (callsIn_wide.2 (HOC.out _))).mono ?_
          rintro e w9 ⟨rfl, hx9⟩
          have m9 := m9.step hx9
          have hst := meet_step (A := A) (c := c) (k := k) (p := p) (x := ⟨j, hj⟩) h6 hlen (v := takR A (la L j) (la L jn) k) (by simp [metO, hB])
          cases hC : ofB (la L j) c
          · simp only [hC, Bool.false_eq_true, ↓reduceIte] at hst
            gi_wp2
            exact ⟨m9.keeps, m9.kp, _, _, h1, m9.nx, m9.out, m9.row, m9.ext, m9.big, hst⟩
          · simp only [hC, ↓reduceIte] at hst
            have n9 := m9.nx.cell
            have g9 := m9.nx.frozen
            gi_wp2
            have m10 := m9.next hls hBx (j : Int)
            exact ⟨m10.keeps, m10.kp, some j, _, fun i hi => (by cases hi; exact hj), m10.nx, m10.out, m10.row, m10.ext, m10.big, hst⟩
    case done =>
      rintro D ys W hD hys ⟨nx, f, h1, h2, h3, h4, h5, h7, h6⟩ hK
      have hyl : ys.length = L.length := by
        have := congrArg List.length hys
        rwa [List.length_map, downs_len] at this
      have hall := (h6 (by rw [hyl]; exact hys)).2
      have hRA : RunesAt W (some ⟨o, 0, none⟩) (metL A L p c k) := ⟨.inr ⟨o, 0, rfl, h4.lt, fun t ht => by rw [Nat.zero_add]; rw [metL_len] at ht; exact (h4.cell ht).trans (by rw [meet_all hys hall ht]; show _ = some (Value.int .i32 (rn (metL A L p c k) t)); rw [metL_at A L p c k ht])⟩, by rw [metL_len]; omega, fun t ht => by rw [metL_len] at ht; rw [metL_at A L p c k ht]; exact HRG.out t ht⟩
      have hcv := hRA.text (P := Tryd.prog) (src := 41) (dst := 9) Tryd.underlying41 Tryd.underlying21 Tryd.underlying9 L.length
      rw [metL_len] at hcv
      have o0 := h3.cell
      gi_wp2
      refine ⟨by simp, .inl ⟨_, _, rfl, run_takeDeferred hK, ?_⟩⟩
      refine ⟨.tuple #[.string (runesBytes (metL A L p c k)), .int .i64 0], ?_, rfl, Ext.putObj (hw0.trans h5) (by have := hw0.le; omega) hK rfl rfl _⟩
      simp [results, Tryd.f16, go_sem]
    case stop =>
      rintro D cc pre W _ _ h _
      exact h.elim
  · rw [show meetS A s p c k = ⟨#[]⟩ from if_neg h0]
    have HSG := Lib.hid (hsg.mono fun e w' h => (⟨h.2.1 h0, h.2.2⟩ : _ ∧ Ext _ w'))
    have gE : (signE A s [p, c, k] != 0) = true := by rw [bne_iff_ne]; exact h0
    clear hsg h0
    refine (callsIn_wide (n := 8)).1 ?_
    refine callsIn_of_wp_marks Tryd.func16 rfl trivial ?_ rfl
    simp only [Tryd.ntmps16, List.size_toArray, List.length_cons, List.length_nil, Nat.reduceAdd, Nat.reduceSub, Array.replicate_succ, Array.replicate_zero, List.push_toArray, List.append_toArray, List.nil_append, List.cons_append]
    gi_wp2_with (refine ⟨trivial, ?_⟩; gi_at_call 29; refine (callsIn_wide.2 HSG.out).mono ?_; rintro e w1 ⟨rfl, hx1⟩)
    refine ⟨.tuple #[.string ⟨#[]⟩, .int .i64 (signE A s [p, c, k])], ?_, rfl, ((hx0.alloc _).trans hx1).alloc _⟩
    simp [results, Tryd.f16, go_sem]
end Go.Proofs.YtcnjgfadihimiaaDoor
