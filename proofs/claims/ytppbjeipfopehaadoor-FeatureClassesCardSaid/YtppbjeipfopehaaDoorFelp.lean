/- The law FeatureClasses holds (its walk). -/
import Derived.Test.YtppbjeipfopehaaDoorFeln
import Derived.Test.YtppbjeipfopehaaDoorFelr
namespace Go.Cg
open Go.RowKit

theorem RunesAt.turned {w w' : World} {p : Option Addr} {l : List Int} {g : Nat} (h : RunesAt w p l) (hp : ∀ b off, p = some ⟨b, off, none⟩ → b ≠ g) (hs : w.heap.size ≤ w'.heap.size)
    (hb : ∀ j, j ≠ g → j < w.heap.size → w'.heap[j]? = w.heap[j]?) : RunesAt w' p l := ⟨h.reads.turned hp hs hb, h.big, h.wf⟩
theorem OwnRunes.place {T B : Nat} {w : World} {p : Option Addr} {c : Nat} {l : List Int} (h : OwnRunes T B w p c l) : ∀ b off, p = some ⟨b, off, none⟩ → B ≤ b := by
  intro b off e
  rcases h.1.2 with ⟨hn, _⟩ | ⟨g, cap, cur, hv, hB, _⟩
  · simp only [Value.slice.injEq] at hn; rw [hn.1] at e; cases e
  · simp only [Value.slice.injEq] at hv
    rw [hv.1] at e
    simp only [Option.some.injEq, Addr.mk.injEq] at e
    omega
theorem OwnRunes.block {T B : Nat} {w : World} {p : Option Addr} {c : Nat} {l : List Int} (h : OwnRunes T B w p c l) (hl : 0 < l.length) : ∃ g cur, p = some ⟨g, 0, none⟩ ∧ B ≤ g ∧ w.heap[g]? = some (.cells cur T (0, 0)) ∧ l.length ≤ cur.size := by
  rcases h.1.2 with ⟨_, hn⟩ | ⟨g, cap, cur, hv, hB, hg, hn, _, hs, _⟩
  · omega
  · simp only [Value.slice.injEq] at hv
    exact ⟨g, cur, hv.1, hB, hg, by omega⟩
end Go.Cg
namespace Go.Proofs.YtppbjeipfopehaaDoor
open Go.RowKit Go.Cg Go.Shelf Go.Maps

set_option maxRecDepth 100000 in
set_option maxHeartbeats 8000000 in
theorem featureClasses_any (fp lp : Option Addr) (fc lc : Nat) (A : Alpha) (h12 : A.lets.length * 12 ≤ 140737488351232) (x : Int) (hx' : -2147483648 ≤ x ∧ x ≤ 2147483647) (y : Int) (hy' : -2147483648 ≤ y ∧ y ≤ 2147483647) (p : Nat) (hp : p < 4294967296) (m : Nat) (hm : m < 4294967296) (w : World) (hA : AlphaAt w fp lp A) :
    Calls Tryd.prog 4 #[.agg #[.slice fp A.feats.length fc, .slice lp A.lets.length lc], .int .i32 x, .int .i32 y, .int .u32 p, .int .u32 m] w fun e w' => e = .returned (.bool true) ∧ Ext w w' := by
  have hx0 : Ext w (w.alloc (.cells #[.slice fp A.feats.length fc, .slice lp A.lets.length lc] 26)) := (Ext.refl _).alloc _
  have hb0 : Ext (w.alloc (.cells #[.slice fp A.feats.length fc, .slice lp A.lets.length lc] 26)) (w.alloc (.cells #[.slice fp A.feats.length fc, .slice lp A.lets.length lc] 26)) := Ext.refl _
  have hc128 : (classL A p m).length ≤ A.lets.length := by
    unfold classL; split
    · exact classTo_len A p m _
    · exact Nat.zero_le _
  have hlb := hA.lbig
  go_enter Tryd.func4, Tryd.ntmps4
  go_wp2_with fail
  refine (alive_any _).mono ?_
  rintro e w1 ⟨rfl, hx1⟩
  have hb1 := hb0.trans hx1
  have hk1 := hx0.trans hx1
  have d0 := hb1.cell0 0
  have d1 := hb1.cell0 1
  simp only [List.getElem?_toArray, List.getElem?_cons_zero, List.getElem?_cons_succ] at d0 d1
  have ds := hb1.lt0
  go_wp2_with fail
  clear d0 d1 ds
  refine (twin_any fp lp fc lc A h12 _ (hA.mono hk1)).mono ?_
  rintro e w2 ⟨gp, mp, gc, mc, rfl, hB, hx2⟩
  have hb2 := (hb1.trans hx2).alloc (.cells #[.slice gp A.feats.length gc, .slice mp A.lets.length mc] 26)
  have hk2 := (hk1.trans hx2).alloc (.cells #[.slice gp A.feats.length gc, .slice mp A.lets.length mc] 26)
  have hy2 := Ext.refl (w2.alloc (.cells #[.slice gp A.feats.length gc, .slice mp A.lets.length mc] 26))
  have hz2 : Ext w2 (w2.alloc (.cells #[.slice gp A.feats.length gc, .slice mp A.lets.length mc] 26)) := (Ext.refl _).alloc _
  have hd0 := hy2.cell0 0
  go_wp2_with fail
  clear hd0
  refine (of_any gp mp gc mc A x _ (hB.mono hz2)).mono ?_
  rintro e w3 ⟨rfl, hx3⟩
  have hb3 := (hb2.trans hx3).alloc (.cells #[.int .i32 (ofL A x).rune, .int .u32 ((ofL A x).plus : Int), .int .u32 ((ofL A x).minus : Int)] 35)
  have hk3 := (hk2.trans hx3).alloc (.cells #[.int .i32 (ofL A x).rune, .int .u32 ((ofL A x).plus : Int), .int .u32 ((ofL A x).minus : Int)] 35)
  have hy3 := (hy2.trans hx3).alloc (.cells #[.int .i32 (ofL A x).rune, .int .u32 ((ofL A x).plus : Int), .int .u32 ((ofL A x).minus : Int)] 35)
  have hz3 := (hz2.trans hx3).alloc (.cells #[.int .i32 (ofL A x).rune, .int .u32 ((ofL A x).plus : Int), .int .u32 ((ofL A x).minus : Int)] 35)
  have ho3 := Ext.refl (w3.alloc (.cells #[.int .i32 (ofL A x).rune, .int .u32 ((ofL A x).plus : Int), .int .u32 ((ofL A x).minus : Int)] 35))
  have d0 := hb3.cell0 0
  have d1 := hb3.cell0 1
  simp only [List.getElem?_toArray, List.getElem?_cons_zero, List.getElem?_cons_succ] at d0 d1
  have ds := hb3.lt0
  have e0 := hy3.cell0 0
  have e1 := hy3.cell0 1
  simp only [List.getElem?_toArray, List.getElem?_cons_zero, List.getElem?_cons_succ] at e0 e1
  have es := hy3.lt0
  go_wp2_with fail
  clear d0 d1 ds e0 e1 es
  refine (has_any gp mp gc mc A x p m hp hm _ (hB.mono hz3)).mono ?_
  rintro e w4 ⟨rfl, hx4⟩
  have hb4 := (hb3.trans hx4)
  have hk4 := (hk3.trans hx4)
  have hy4 := (hy3.trans hx4)
  have hz4 := (hz3.trans hx4)
  have ho4 := (ho3.trans hx4)
  have d0 := hb4.cell0 0
  have d1 := hb4.cell0 1
  simp only [List.getElem?_toArray, List.getElem?_cons_zero, List.getElem?_cons_succ] at d0 d1
  have ds := hb4.lt0
  have e0 := hy4.cell0 0
  have e1 := hy4.cell0 1
  simp only [List.getElem?_toArray, List.getElem?_cons_zero, List.getElem?_cons_succ] at e0 e1
  have es := hy4.lt0
  go_wp2_with fail
  clear d0 d1 ds e0 e1 es
  refine (class_any gp mp gc mc A p m hp hm _ (hB.mono hz4)).mono ?_
  rintro e w5 ⟨cp, cc, rfl, hoc, hx5⟩
  have hb5 := (hb4.trans hx5)
  have hk5 := (hk4.trans hx5)
  have hy5 := (hy4.trans hx5)
  have hz5 := (hz4.trans hx5)
  have ho5 := (ho4.trans hx5)
  have hq5 := Ext.refl w5
  have hv5 := hx5
  have d0 := hb5.cell0 0
  have d1 := hb5.cell0 1
  simp only [List.getElem?_toArray, List.getElem?_cons_zero, List.getElem?_cons_succ] at d0 d1
  have ds := hb5.lt0
  have e0 := hy5.cell0 0
  have e1 := hy5.cell0 1
  simp only [List.getElem?_toArray, List.getElem?_cons_zero, List.getElem?_cons_succ] at e0 e1
  have es := hy5.lt0
  go_wp2_with fail
  clear d0 d1 ds e0 e1 es
  refine (far_any gp mp gc mc A x y _ (hB.mono hz5)).mono ?_
  rintro e w6 ⟨rfl, hx6⟩
  have hb6 := (hb5.trans hx6)
  have hk6 := (hk5.trans hx6)
  have hy6 := (hy5.trans hx6)
  have hz6 := (hz5.trans hx6)
  have ho6 := (ho5.trans hx6)
  have hq6 := (hq5.trans hx6)
  have hv6 := (hv5.trans hx6)
  have d0 := hb6.cell0 0
  have d1 := hb6.cell0 1
  simp only [List.getElem?_toArray, List.getElem?_cons_zero, List.getElem?_cons_succ] at d0 d1
  have ds := hb6.lt0
  have e0 := hy6.cell0 0
  have e1 := hy6.cell0 1
  simp only [List.getElem?_toArray, List.getElem?_cons_zero, List.getElem?_cons_succ] at e0 e1
  have es := hy6.lt0
  go_wp2_with fail
  clear d0 d1 ds e0 e1 es
  refine (near_any gp mp gc mc A x p m hp hm _ (hB.mono hz6)).mono ?_
  rintro e w7 ⟨rfl, hx7⟩
  have hb7 := (hb6.trans hx7)
  have hk7 := (hk6.trans hx7)
  have hy7 := (hy6.trans hx7)
  have hz7 := (hz6.trans hx7)
  have ho7 := (ho6.trans hx7)
  have hq7 := (hq6.trans hx7)
  have hv7 := (hv6.trans hx7)
  have d0 := hb7.cell0 0
  have d1 := hb7.cell0 1
  simp only [List.getElem?_toArray, List.getElem?_cons_zero, List.getElem?_cons_succ] at d0 d1
  have ds := hb7.lt0
  have e0 := hy7.cell0 0
  have e1 := hy7.cell0 1
  simp only [List.getElem?_toArray, List.getElem?_cons_zero, List.getElem?_cons_succ] at e0 e1
  have es := hy7.lt0
  go_wp2_with fail
  clear d0 d1 ds e0 e1 es
  refine (class_any gp mp gc mc A p m hp hm _ (hB.mono hz7)).mono ?_
  rintro e w8 ⟨dp, dc, rfl, hod, hx8⟩
  have hb8 := (hb7.trans hx8)
  have hk8 := (hk7.trans hx8)
  have hy8 := (hy7.trans hx8)
  have hz8 := (hz7.trans hx8)
  have ho8 := (ho7.trans hx8)
  have hq8 := (hq7.trans hx8)
  have hv8 := (hv7.trans hx8)
  have hr8 := Ext.refl w8
  have d0 := hb8.cell0 0
  have d1 := hb8.cell0 1
  simp only [List.getElem?_toArray, List.getElem?_cons_zero, List.getElem?_cons_succ] at d0 d1
  have ds := hb8.lt0
  have e0 := hy8.cell0 0
  have e1 := hy8.cell0 1
  simp only [List.getElem?_toArray, List.getElem?_cons_zero, List.getElem?_cons_succ] at e0 e1
  have es := hy8.lt0
  go_wp2_with fail
  clear d0 d1 ds e0 e1 es
  refine (Of02_any fp lp fc lc A x hx' _ (hA.mono hk8)).mono ?_
  rintro e w9 ⟨rfl, hx9⟩
  have hb9 := (hb8.trans hx9).alloc (.cells #[.int .i32 (ofL A x).rune, .int .u32 ((ofL A x).plus : Int), .int .u32 ((ofL A x).minus : Int)] 35)
  have hk9 := (hk8.trans hx9).alloc (.cells #[.int .i32 (ofL A x).rune, .int .u32 ((ofL A x).plus : Int), .int .u32 ((ofL A x).minus : Int)] 35)
  have hy9 := (hy8.trans hx9).alloc (.cells #[.int .i32 (ofL A x).rune, .int .u32 ((ofL A x).plus : Int), .int .u32 ((ofL A x).minus : Int)] 35)
  have hz9 := (hz8.trans hx9).alloc (.cells #[.int .i32 (ofL A x).rune, .int .u32 ((ofL A x).plus : Int), .int .u32 ((ofL A x).minus : Int)] 35)
  have ho9 := (ho8.trans hx9).alloc (.cells #[.int .i32 (ofL A x).rune, .int .u32 ((ofL A x).plus : Int), .int .u32 ((ofL A x).minus : Int)] 35)
  have hq9 := (hq8.trans hx9).alloc (.cells #[.int .i32 (ofL A x).rune, .int .u32 ((ofL A x).plus : Int), .int .u32 ((ofL A x).minus : Int)] 35)
  have hv9 := (hv8.trans hx9).alloc (.cells #[.int .i32 (ofL A x).rune, .int .u32 ((ofL A x).plus : Int), .int .u32 ((ofL A x).minus : Int)] 35)
  have hr9 := (hr8.trans hx9).alloc (.cells #[.int .i32 (ofL A x).rune, .int .u32 ((ofL A x).plus : Int), .int .u32 ((ofL A x).minus : Int)] 35)
  have hu9 := Ext.refl (w9.alloc (.cells #[.int .i32 (ofL A x).rune, .int .u32 ((ofL A x).plus : Int), .int .u32 ((ofL A x).minus : Int)] 35))
  have d0 := hb9.cell0 0
  have d1 := hb9.cell0 1
  simp only [List.getElem?_toArray, List.getElem?_cons_zero, List.getElem?_cons_succ] at d0 d1
  have ds := hb9.lt0
  have e0 := hy9.cell0 0
  have e1 := hy9.cell0 1
  simp only [List.getElem?_toArray, List.getElem?_cons_zero, List.getElem?_cons_succ] at e0 e1
  have es := hy9.lt0
  go_wp2_with fail
  clear d0 d1 ds e0 e1 es
  refine (Has02_any fp lp fc lc A x hx' p m hp hm _ (hA.mono hk9)).mono ?_
  rintro e w10 ⟨rfl, hx10⟩
  have hb10 := (hb9.trans hx10)
  have hk10 := (hk9.trans hx10)
  have hy10 := (hy9.trans hx10)
  have hz10 := (hz9.trans hx10)
  have ho10 := (ho9.trans hx10)
  have hq10 := (hq9.trans hx10)
  have hv10 := (hv9.trans hx10)
  have hr10 := (hr9.trans hx10)
  have hu10 := (hu9.trans hx10)
  have d0 := hb10.cell0 0
  have d1 := hb10.cell0 1
  simp only [List.getElem?_toArray, List.getElem?_cons_zero, List.getElem?_cons_succ] at d0 d1
  have ds := hb10.lt0
  have e0 := hy10.cell0 0
  have e1 := hy10.cell0 1
  simp only [List.getElem?_toArray, List.getElem?_cons_zero, List.getElem?_cons_succ] at e0 e1
  have es := hy10.lt0
  go_wp2_with fail
  clear d0 d1 ds e0 e1 es
  refine (Class02_any fp lp fc lc A p m hp hm _ (hA.mono hk10)).mono ?_
  rintro e w11 ⟨ep, ec, rfl, hoe, hx11⟩
  have hb11 := (hb10.trans hx11)
  have hk11 := (hk10.trans hx11)
  have hy11 := (hy10.trans hx11)
  have hz11 := (hz10.trans hx11)
  have ho11 := (ho10.trans hx11)
  have hq11 := (hq10.trans hx11)
  have hv11 := (hv10.trans hx11)
  have hr11 := (hr10.trans hx11)
  have hu11 := (hu10.trans hx11)
  have hs11 := Ext.refl w11
  have d0 := hb11.cell0 0
  have d1 := hb11.cell0 1
  simp only [List.getElem?_toArray, List.getElem?_cons_zero, List.getElem?_cons_succ] at d0 d1
  have ds := hb11.lt0
  have e0 := hy11.cell0 0
  have e1 := hy11.cell0 1
  simp only [List.getElem?_toArray, List.getElem?_cons_zero, List.getElem?_cons_succ] at e0 e1
  have es := hy11.lt0
  go_wp2_with fail
  clear d0 d1 ds e0 e1 es
  refine (Far02_any fp lp fc lc A x y hx' hy' _ (hA.mono hk11)).mono ?_
  rintro e w12 ⟨rfl, hx12⟩
  have hb12 := (hb11.trans hx12)
  have hk12 := (hk11.trans hx12)
  have hy12 := (hy11.trans hx12)
  have hz12 := (hz11.trans hx12)
  have ho12 := (ho11.trans hx12)
  have hq12 := (hq11.trans hx12)
  have hv12 := (hv11.trans hx12)
  have hr12 := (hr11.trans hx12)
  have hu12 := (hu11.trans hx12)
  have hs12 := (hs11.trans hx12)
  have d0 := hb12.cell0 0
  have d1 := hb12.cell0 1
  simp only [List.getElem?_toArray, List.getElem?_cons_zero, List.getElem?_cons_succ] at d0 d1
  have ds := hb12.lt0
  have e0 := hy12.cell0 0
  have e1 := hy12.cell0 1
  simp only [List.getElem?_toArray, List.getElem?_cons_zero, List.getElem?_cons_succ] at e0 e1
  have es := hy12.lt0
  go_wp2_with fail
  clear d0 d1 ds e0 e1 es
  refine (Near02_any fp lp fc lc A x hx' p m hp hm _ (hA.mono hk12)).mono ?_
  rintro e w13 ⟨rfl, hx13⟩
  have hb13 := (hb12.trans hx13)
  have hk13 := (hk12.trans hx13)
  have hy13 := (hy12.trans hx13)
  have hz13 := (hz12.trans hx13)
  have ho13 := (ho12.trans hx13)
  have hq13 := (hq12.trans hx13)
  have hv13 := (hv12.trans hx13)
  have hr13 := (hr12.trans hx13)
  have hu13 := (hu12.trans hx13)
  have hs13 := (hs12.trans hx13)
  have d0 := hb13.cell0 0
  have d1 := hb13.cell0 1
  simp only [List.getElem?_toArray, List.getElem?_cons_zero, List.getElem?_cons_succ] at d0 d1
  have ds := hb13.lt0
  have e0 := hy13.cell0 0
  have e1 := hy13.cell0 1
  simp only [List.getElem?_toArray, List.getElem?_cons_zero, List.getElem?_cons_succ] at e0 e1
  have es := hy13.lt0
  have l0 := ho13.cell0 0
  have l1 := ho13.cell0 1
  have l2 := ho13.cell0 2
  have m0 := hu13.cell0 0
  have m1 := hu13.cell0 1
  have m2 := hu13.cell0 2
  simp only [List.getElem?_toArray, List.getElem?_cons_zero, List.getElem?_cons_succ] at l0 l1 l2 m0 m1 m2
  have hcR := hoc.at_.mono hq13
  have hdR := hod.at_.mono hr13
  have heR := hoe.at_.mono hs13
  have hAk := hA.mono hk13
  have hBk := hB.mono hz13
  have HSame := Lib.hid (fun W (hW : Ext w13 W) => Same_any cp ep cc ec (classL A p m) W (hcR.mono hW) (heR.mono hW))
  have HCh := Lib.hid (fun W (hW : Ext w13 W) => check_any gp mp gc mc A W (hBk.mono hW))
  have HCh2 := Lib.hid (fun W (hW : Ext w13 W) => Check_any fp lp fc lc A W (hAk.mono hW))
  have b1 : (hasB A x p m == hasB A x p m) = true := by simp
  have b2 : (((farN A x y : Nat) : Int) == ((farN A x y : Nat) : Int)) = true := by simp
  have b3 : (nearR A x p m == nearR A x p m) = true := by simp
  have b4 : (checkN A == checkN A) = true := by simp
  go_wp2_with fail
  (refine wp_region_ext (by kernel_rfl) (by kernel_rfl) ?_; intro ι hι g hg; have q_l0 := hg.cell l0; have q_l1 := hg.cell l1; have q_l2 := hg.cell l2; have q_m0 := hg.cell m0; have q_m1 := hg.cell m1; have q_m2 := hg.cell m2; have q_d0 := hg.cell d0; have q_d1 := hg.cell d1; have q_e0 := hg.cell e0; have q_e1 := hg.cell e1; clear l0 l1 l2 m0 m1 m2 d0 d1 e0 e1; (repeat (go_big_quiet_step ((first | (go_at_call 25; exact hg.call (HSame.out _ (hg.ext _))) | (go_at_call 12; exact hg.call (HCh.out _ (hg.ext _))) | (go_at_call 26; exact hg.call (HCh2.out _ (hg.ext _))))))); refine wpQuiet_nil ?_; rintro wQ ⟨i2, rfl⟩; have hQ := hg.ext i2; generalize g i2 = wQ at hQ ⊢; clear q_l0 q_l1 q_l2 q_m0 q_m1 q_m2 q_d0 q_d1 q_e0 q_e1 i2 hg g hι ι)
  go_wp2_with fail
  have hvQ := hv13.trans hQ
  have hqQ := hq13.trans hQ
  have hdQ := hdR.mono hQ
  have heQ := heR.mono hQ
  have hdp := hod.place
  have hep := hoe.place
  have s5 : w5.heap.size ≤ w7.heap.size := hq7.le
  have s5b : w5.heap.size ≤ w10.heap.size := hq10.le
  have hsQ : w5.heap.size ≤ wQ.heap.size := hqQ.le
  clear HSame HCh HCh2 ds es b1 b2 b3 b4 hAk hBk hcR hdR heR
  by_cases hpos : 0 < (classL A p m).length
  · obtain ⟨g, cur, rfl, hgB, hgc, hgl⟩ := hoc.block hpos
    have hg5 : g < w5.heap.size := (Array.getElem?_eq_some_iff.1 hgc).1
    have hgQ : wQ.heap[g]? = some (.cells cur 21 (0, 0)) := (Below.block hqQ g hg5).trans hgc
    generalize classL A p m = L at *
    go_loopw [36] (fun i wr => ∃ k : Nat, k ≤ L.length ∧ i = .int .i64 k ∧ Ext w4 wr ∧ wQ.heap.size ≤ wr.heap.size ∧ Hid (∀ j, j ≠ g → j < wQ.heap.size → wr.heap[j]? = wQ.heap[j]?) ∧ ∃ cur : Array Value, wr.heap[g]? = some (.cells cur 21 (0, 0)) ∧ L.length ≤ cur.size) (fun i _ => L.length - (intOf i).toNat)
    case atStart => exact ⟨0, Nat.zero_le _, rfl, hvQ, Nat.le_refl _, fun _ _ _ => rfl, cur, hgQ, hgl⟩
    case round =>
      obtain ⟨k, hk, rfl, HV, hsz, HT, cu, hgr, hcl⟩ := hrel
      by_cases hlt : k < L.length
      · have c0 : wr.cell? ⟨g, k, none⟩ = some (cu[k]'(by omega)) := by rw [Lib.cell_of_heap hgr]; exact Array.getElem?_eq_getElem _
        have z0 := Lib.frozen_of_heap hgr k
        generalize cu[k]'(by omega) = cv at c0
        go_wp2_with fail
        refine ⟨⟨k + 1, by omega, by go_num, HV.setCell (p := ⟨g, k, none⟩) hgB _, by simpa [World.setCell] using hsz, fun j hj hj2 => (heap_setCell_other _ _ _ _ (by exact hj)).trans (HT.out j hj hj2), cu.setIfInBounds k (.int .i32 81), heap_setCell_same _ g k _ _ _ hgr, by simpa using hcl⟩, by simp [intOf]; omega⟩
      · have RD := hdQ.turned (g := g) (w' := wr) (fun b off e => by have := hdp b off e; omega) hsz HT.out
        have RE := heQ.turned (g := g) (w' := wr) (fun b off e => by have := hep b off e; omega) hsz HT.out
        have gb := hb4.trans HV
        have gy := hy4.trans HV
        have gk := hk4.trans HV
        have gz := hz4.trans HV
        have q1 : (ofE A x == ofE A x) = true := by simp
        have q2 : (hasE A x p m == hasE A x p m) = true := by simp
        have q3 : (classE A p m == classE A p m) = true := by simp
        have q4 : (farE A x y == farE A x y) = true := by simp
        go_wp2_with fail
        refine (Same_any dp ep dc ec _ wr RD RE).mono ?_
        rintro e wS ⟨rfl, hxS⟩
        have f0 := (gb.trans hxS).cell0 0
        have f1 := (gb.trans hxS).cell0 1
        have k0 := (gy.trans hxS).cell0 0
        have k1 := (gy.trans hxS).cell0 1
        simp only [List.getElem?_toArray, List.getElem?_cons_zero, List.getElem?_cons_succ] at f0 f1 k0 k1
        go_wp2_with fail
        refine (alike_any fp lp gp mp fc lc gc mc A _ (hA.mono (gk.trans hxS)) (hB.mono (gz.trans hxS))).mono ?_
        rintro e wT ⟨rfl, hxT⟩
        go_wp2_with fail
        go_ret
        exact ⟨rfl, (gk.trans hxS).trans hxT⟩
  · generalize classL A p m = L at *
    go_loopw [36] (fun i wr => ∃ k : Nat, k = 0 ∧ i = .int .i64 k ∧ Ext wQ wr) (fun i _ => L.length - (intOf i).toNat)
    case atStart => exact ⟨0, rfl, rfl, Ext.refl _⟩
    case round =>
      obtain ⟨k, rfl, rfl, hxr⟩ := hrel
      have HV := hvQ.trans hxr
      have RD := hdQ.mono hxr
      have RE := heQ.mono hxr
      have gb := hb4.trans HV
      have gy := hy4.trans HV
      have gk := hk4.trans HV
      have gz := hz4.trans HV
      have q1 : (ofE A x == ofE A x) = true := by simp
      have q2 : (hasE A x p m == hasE A x p m) = true := by simp
      have q3 : (classE A p m == classE A p m) = true := by simp
      have q4 : (farE A x y == farE A x y) = true := by simp
      go_wp2_with fail
      refine (Same_any dp ep dc ec _ wr RD RE).mono ?_
      rintro e wS ⟨rfl, hxS⟩
      have f0 := (gb.trans hxS).cell0 0
      have f1 := (gb.trans hxS).cell0 1
      have k0 := (gy.trans hxS).cell0 0
      have k1 := (gy.trans hxS).cell0 1
      simp only [List.getElem?_toArray, List.getElem?_cons_zero, List.getElem?_cons_succ] at f0 f1 k0 k1
      go_wp2_with fail
      refine (alike_any fp lp gp mp fc lc gc mc A _ (hA.mono (gk.trans hxS)) (hB.mono (gz.trans hxS))).mono ?_
      rintro e wT ⟨rfl, hxT⟩
      go_wp2_with fail
      go_ret
      exact ⟨rfl, (gk.trans hxS).trans hxT⟩
end Go.Proofs.YtppbjeipfopehaaDoor
