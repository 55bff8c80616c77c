/- Contracts of the reference: Of, Has, Far, Nearest, Near, Class. -/
import Derived.Test.YtppbjeipfopehaaDoorFeati
import Derived.Test.YtppbjeipfopehaaDoorSpez
import Derived.Test.YtppbjeipfopehaaDoorRegt
import Derived.Test.YtppbjeipfopehaaDoorFela
namespace Go.Proofs.YtppbjeipfopehaaDoor
open Go.RowKit Go.Cg Go.Shelf Go.Maps

theorem RunesAt.one {w W : World} {r : Int} {B : Nat} (hb : W.heap[B]? = some (.cells #[.int .i32 r] 21 (0, 0))) (h1 : -2147483648 ≤ r) (h2 : r ≤ 2147483647) : RunesAt W (some ⟨B, 0, none⟩) [r] := by
  refine ⟨.inr ⟨B, 0, rfl, (Array.getElem?_eq_some_iff.1 hb).1, fun j hj => ?_⟩, by show (_ : Nat) ≤ _; simp, fun i hi => ?_⟩
  · have : j = 0 := by simp at hj; omega
    subst this
    rw [Lib.cell_of_heap hb]; rfl
  · have : i = 0 := by simp at hi; omega
    subst this; exact ⟨h1, h2⟩
theorem RunesAt.two {w W : World} {r s : Int} {B : Nat} (hb : W.heap[B]? = some (.cells #[.int .i32 r, .int .i32 s] 21 (0, 0))) (h1 : -2147483648 ≤ r ∧ r ≤ 2147483647) (h2 : -2147483648 ≤ s ∧ s ≤ 2147483647) : RunesAt W (some ⟨B, 0, none⟩) [r, s] := by
  refine ⟨.inr ⟨B, 0, rfl, (Array.getElem?_eq_some_iff.1 hb).1, fun j hj => ?_⟩, by show (_ : Nat) ≤ _; simp, fun i hi => ?_⟩
  · have h3 : j < 2 := by simpa using hj
    rw [Lib.cell_of_heap hb]
    match j, h3 with
    | 0, _ => rfl
    | 1, _ => rfl
  · have h3 : i < 2 := by simpa using hi
    match i, h3 with
    | 0, _ => exact h1
    | 1, _ => exact h2
theorem results_row_tmp {P : Program} {fn : Func} {p q : Tmp} {ty : TypeId} (h : fn.results = #[.cell p ty, .tmp q]) (tmps : Array Value) (w : World) (g : Nat) (t : TypeId) (cs : Array Value) (fr : Nat × Nat) (d : TypeDesc) (v : Value)
    (hp : tmps.getD p undef = .pointer (some ⟨g, 0, none⟩)) (hq : tmps.getD q undef = v) (hg : w.heap[g]? = some (.cells cs t fr))
    (hu : P.underlying ty = some d) (hd : (match d with | .struct _ | .array _ _ => true | _ => false) = true) (hi : (P.info? ty).map (·.size) = some cs.size) :
    (results fn tmps).run P w = .ok (.tuple #[.agg cs, v]) w := by
  have hp' : tmps[p]?.getD undef = .pointer (some ⟨g, 0, none⟩) := by simpa using hp
  have hq' : tmps[q]?.getD undef = v := by simpa using hq
  simp [results, h, hp', hq', asAddr, run_loadVar_row w g t ty cs fr d hg hu hd hi]
theorem ofL_zero {A : Alpha} {r : Int} (h : ofE A r ≠ 0) : ofL A r = zl := by
  rcases ofE_cases A r with ⟨h0, _⟩ | ⟨_, _, hf⟩ | ⟨_, hk⟩
  · exact absurd h0 h
  · exact ofL_none hf
  · exact ofL_bad hk r
theorem asked_one (A : Alpha) (r : Int) : askedN A [r] = ofE A r := by
  unfold askedN ofE
  split
  · by_cases h : 0 ≤ findLetter A r
    · rw [if_pos h, if_pos fun i hi => by
        have : i = 0 := by simp at hi; omega
        subst this; exact h]
    · rw [if_neg h, if_neg fun h' => h (h' 0 (by simp))]
  · rfl
theorem asked_two (A : Alpha) (x y : Int) : askedN A [x, y] = farE A x y := by
  unfold askedN farE ofE
  split
  · by_cases h : 0 ≤ findLetter A x
    · rw [if_pos h, if_pos rfl]
      by_cases h2 : 0 ≤ findLetter A y
      · rw [if_pos h2, if_pos fun i hi => by
          have h3 : i < 2 := by simpa using hi
          match i, h3 with
          | 0, _ => exact h
          | 1, _ => exact h2]
      · rw [if_neg h2, if_neg fun h' => h2 (h' 1 (by simp))]
    · rw [if_neg h, if_neg (show ¬ ((5 : Int) = 0) by decide), if_neg fun h' => h (h' 0 (by simp))]
  · rw [if_neg (by decide)]
theorem asked_nil (A : Alpha) : askedN A [] = if A.Ok then 0 else 7 := by
  unfold askedN
  split
  · rw [if_pos fun i hi => absurd hi (by simp)]
  · rfl

set_option maxRecDepth 100000 in
set_option maxHeartbeats 1000000 in
theorem Of02_any (fp lp : Option Addr) (fc lc : Nat) (A : Alpha) (r : Int) (hr : -2147483648 ≤ r ∧ r ≤ 2147483647) (w : World) (hA : AlphaAt w fp lp A) :
    Calls Tryd.prog 20 #[.agg #[.slice fp A.feats.length fc, .slice lp A.lets.length lc], .int .i32 r] w fun e w' => e = .returned (.tuple #[.agg #[.int .i32 (ofL A r).rune, .int .u32 ((ofL A r).plus : Int), .int .u32 ((ofL A r).minus : Int)], .int .i64 (ofE A r)]) ∧ Ext w w' := by
  have hx3 : Ext w (((w.alloc (.cells #[.slice fp A.feats.length fc, .slice lp A.lets.length lc] 26)).alloc (.cells #[.int .i32 0, .int .u32 0, .int .u32 0] 35)).alloc (.cells #[.int .i32 r] 21)) := (((Ext.refl _).alloc _).alloc _).alloc _
  have hR : RunesAt (((w.alloc (.cells #[.slice fp A.feats.length fc, .slice lp A.lets.length lc] 26)).alloc (.cells #[.int .i32 0, .int .u32 0, .int .u32 0] 35)).alloc (.cells #[.int .i32 r] 21)) (some ⟨w.heap.size + 1 + 1, 0, none⟩) [r] :=
    RunesAt.one (w := w) (by have := heap_alloc_new ((w.alloc (.cells #[.slice fp A.feats.length fc, .slice lp A.lets.length lc] 26)).alloc (.cells #[.int .i32 0, .int .u32 0, .int .u32 0] 35)) (.cells #[.int .i32 r] 21); rw [size_alloc, size_alloc] at this; exact this) hr.1 hr.2
  have HA := Lib.hid (asked_any fp lp _ fc lc 1 A [r] _ (hA.mono hx3) hR)
  rw [asked_one] at HA
  clear hR
  by_cases h0 : ofE A r = 0
  · obtain ⟨hok, hf⟩ : A.Ok ∧ 0 ≤ findLetter A r := by rcases ofE_cases A r with ⟨_, h, h'⟩ | ⟨h, _⟩ | ⟨h, _⟩ <;> first | exact ⟨h, h'⟩ | omega
    obtain ⟨i, hi, hlt, -⟩ := findLetter_some hf
    have hO := ofL_ok hok hi
    rw [h0] at HA ⊢
    rw [hO]
    have HA' := HA.out
    go_enter Tryd.func20, Tryd.ntmps20
    go_wp2_with (first | (go_at_call 46; refine HA'.mono ?_; rintro e w1 ⟨rfl, hx1⟩))
    obtain ⟨b, off, rfl, hbw⟩ := hA.lsome (by omega)
    have hxb : Ext (w.alloc (.cells #[.slice fp A.feats.length fc, .slice (some ⟨b, off, none⟩) A.lets.length lc] 26)) w1 := (((Ext.refl _).alloc _).alloc _).trans hx1
    have d0 := hxb.cell0 0
    have d1 := hxb.cell0 1
    simp at d0 d1
    have hAW := hA.mono (hx3.trans hx1)
    have HF := Lib.hid (fun W (hW : Ext w1 W) => Find_any fp (some ⟨b, off, none⟩) fc lc A r W (hAW.mono hW))
    rw [hi] at HF
    obtain ⟨_, c0, c1, c2⟩ := hAW.lcell hlt
    have hxc : Ext ((w.alloc (.cells #[.slice fp A.feats.length fc, .slice (some ⟨b, off, none⟩) A.lets.length lc] 26)).alloc (.cells #[.int .i32 0, .int .u32 0, .int .u32 0] 35)) w1 := ((Ext.refl _).alloc _).trans hx1
    have hb4 : w1.heap[w.heap.size + 1]? = some (.cells #[.int .i32 0, .int .u32 0, .int .u32 0] 35 (0, 0)) := by
      have h1 := heap_alloc_new (w.alloc (.cells #[.slice fp A.feats.length fc, .slice (some ⟨b, off, none⟩) A.lets.length lc] 26)) (.cells #[.int .i32 0, .int .u32 0, .int .u32 0] 35)
      rw [size_alloc] at h1
      exact (Below.block hxc (w.heap.size + 1) (by simp)).trans h1
    (refine wp_region_ext_tail 7 (by kernel_rfl) (by kernel_rfl) ?_; intro ι hι g hg; simp only [List.take_succ_cons, List.take_zero, List.drop_succ_cons, List.drop_zero]; have q_d0 := hg.cell d0; have q_d1 := hg.cell d1; have q_c0 := hg.cell c0; have q_c1 := hg.cell c1; have q_c2 := hg.cell c2; clear d0 d1 c0 c1 c2; (repeat (go_big_quiet_step ((go_at_call 47; exact hg.call (HF.out _ (hg.ext _)))))); refine wpQuiet_nil ?_; rintro w2 ⟨i2, rfl⟩; have hq := hg.ext i2; generalize g i2 = w2 at hq ⊢; clear q_d0 q_d1 q_c0 q_c1 q_c2 i2 hg g hι ι)
    have hb5 := (Below.block hq _ (Array.getElem?_eq_some_iff.1 hb4).1).trans hb4
    have f0 := Lib.frozen_of_heap hb5 0
    have f1 := Lib.frozen_of_heap hb5 1
    have f2 := Lib.frozen_of_heap hb5 2
    have g0 : w2.cell? ⟨w.heap.size + 1, 0, none⟩ = some (.int .i32 0) := by rw [Lib.cell_of_heap hb5]; rfl
    have g1 : w2.cell? ⟨w.heap.size + 1, 1, none⟩ = some (.int .u32 0) := by rw [Lib.cell_of_heap hb5]; rfl
    have g2 : w2.cell? ⟨w.heap.size + 1, 2, none⟩ = some (.int .u32 0) := by rw [Lib.cell_of_heap hb5]; rfl
    go_wp2_with fail
    refine bodyPost_ret (results_row_tmp rfl _ _ (w.heap.size + 1) 35 #[.int .i32 (A.at_ i).rune, .int .u32 ((A.at_ i).plus : Int), .int .u32 ((A.at_ i).minus : Int)] (0, 0) _ (.int .i64 0) rfl rfl (three_set hb5) Tryd.underlying35 rfl (by kernel_rfl)) rfl ⟨rfl, ?_⟩
    exact ((((hx3.trans hx1).trans hq).setCell (p := ⟨w.heap.size + 1, 0, none⟩) (by simp) _).setCell (p := ⟨w.heap.size + 1, 1, none⟩) (by simp) _).setCell (p := ⟨w.heap.size + 1, 2, none⟩) (by simp) _
  · have hne : (ofE A r != 0) = true := by rw [bne_iff_ne]; exact h0
    rw [ofL_zero h0]
    have HA' := HA.out
    clear HA
    go_enter Tryd.func20, Tryd.ntmps20
    go_wp2_with (first | (go_at_call 46; refine HA'.mono ?_; rintro e w1 ⟨rfl, hx1⟩; have hxc : Ext ((w.alloc (.cells #[.slice fp A.feats.length fc, .slice lp A.lets.length lc] 26)).alloc (.cells #[.int .i32 0, .int .u32 0, .int .u32 0] 35)) w1 := ((Ext.refl _).alloc _).trans hx1; have f0 := hxc.froz0 0; have f1 := hxc.froz0 1; have f2 := hxc.froz0 2; have g0 := hxc.cell0 0; have g1 := hxc.cell0 1; have g2 := hxc.cell0 2; rw [size_alloc] at f0 f1 f2 g0 g1 g2; simp only [List.getElem?_toArray, List.getElem?_cons_zero, List.getElem?_cons_succ] at g0 g1 g2))
    have hxc : Ext ((w.alloc (.cells #[.slice fp A.feats.length fc, .slice lp A.lets.length lc] 26)).alloc (.cells #[.int .i32 0, .int .u32 0, .int .u32 0] 35)) w1 := ((Ext.refl _).alloc _).trans hx1
    have hb5 : w1.heap[w.heap.size + 1]? = some (.cells #[.int .i32 0, .int .u32 0, .int .u32 0] 35 (0, 0)) := by
      have h1 := heap_alloc_new (w.alloc (.cells #[.slice fp A.feats.length fc, .slice lp A.lets.length lc] 26)) (.cells #[.int .i32 0, .int .u32 0, .int .u32 0] 35)
      rw [size_alloc] at h1
      exact (Below.block hxc (w.heap.size + 1) (by simp)).trans h1
    refine bodyPost_ret (results_row_tmp rfl _ _ (w.heap.size + 1) 35 #[.int .i32 0, .int .u32 0, .int .u32 0] (0, 0) _ (.int .i64 (ofE A r)) rfl rfl (three_set hb5) Tryd.underlying35 rfl (by kernel_rfl)) rfl ⟨rfl, ?_⟩
    exact (((hx3.trans hx1).setCell (p := ⟨w.heap.size + 1, 0, none⟩) (by simp) _).setCell (p := ⟨w.heap.size + 1, 1, none⟩) (by simp) _).setCell (p := ⟨w.heap.size + 1, 2, none⟩) (by simp) _

set_option maxRecDepth 100000 in
set_option maxHeartbeats 1000000 in
theorem Has02_any (fp lp : Option Addr) (fc lc : Nat) (A : Alpha) (r : Int) (hr : -2147483648 ≤ r ∧ r ≤ 2147483647) (p m : Nat) (hp : p < 4294967296) (hm : m < 4294967296) (w : World) (hA : AlphaAt w fp lp A) :
    Calls Tryd.prog 21 #[.agg #[.slice fp A.feats.length fc, .slice lp A.lets.length lc], .int .i32 r, .int .u32 p, .int .u32 m] w fun e w' => e = .returned (.tuple #[.bool (hasB A r p m), .int .i64 (hasE A r p m)]) ∧ Ext w w' := by
  have hx3 : Ext w ((w.alloc (.cells #[.slice fp A.feats.length fc, .slice lp A.lets.length lc] 26)).alloc (.cells #[.int .i32 r] 21)) := ((Ext.refl _).alloc _).alloc _
  have hfb := hA.fbig
  have hR : RunesAt ((w.alloc (.cells #[.slice fp A.feats.length fc, .slice lp A.lets.length lc] 26)).alloc (.cells #[.int .i32 r] 21)) (some ⟨w.heap.size + 1, 0, none⟩) [r] :=
    RunesAt.one (w := w) (by have := heap_alloc_new (w.alloc (.cells #[.slice fp A.feats.length fc, .slice lp A.lets.length lc] 26)) (.cells #[.int .i32 r] 21); rw [size_alloc] at this; exact this) hr.1 hr.2
  have HA := Lib.hid (asked_any fp lp _ fc lc 1 A [r] _ (hA.mono hx3) hR)
  rw [asked_one] at HA
  clear hR
  have HA' := HA.out
  clear HA
  by_cases h0 : ofE A r = 0
  · obtain ⟨hok, hf⟩ : A.Ok ∧ 0 ≤ findLetter A r := by rcases ofE_cases A r with ⟨_, h, h'⟩ | ⟨h, _⟩ | ⟨h, _⟩ <;> first | exact ⟨h, h'⟩ | omega
    obtain ⟨i, hi, hlt, -⟩ := findLetter_some hf
    have hO := ofL_ok hok hi
    rw [h0] at HA'
    cases hmay : mayB A.feats.length p m
    · have hB : hasB A r p m = false := by unfold hasB hasE; rw [if_pos h0, hmay]; rfl
      have hE : hasE A r p m = 20 := by unfold hasE; rw [if_pos h0, hmay]; rfl
      rw [hB, hE]
      go_enter Tryd.func21, Tryd.ntmps21
      go_wp2_with (first | (go_at_call 46; refine HA'.mono ?_; rintro e w1 ⟨rfl, hx1⟩; have hxb : Ext (w.alloc (.cells #[.slice fp A.feats.length fc, .slice lp A.lets.length lc] 26)) w1 := ((Ext.refl _).alloc _).trans hx1; have d0 := hxb.cell0 0; have d1 := hxb.cell0 1; simp at d0 d1; have hs1 := hxb.lt0) | (go_at_call 48; refine (May_any _ _ _ _ _ _ hp hm hfb _).mono ?_; rw [hmay]; rintro e w2 ⟨rfl, hx2⟩))
      go_ret2
      exact ⟨rfl, (hx3.trans hx1).trans hx2⟩
    · have hB : hasB A r p m = likeB (A.at_ i).plus (A.at_ i).minus p m := by unfold hasB hasE; rw [if_pos h0, hmay, hO]; simp
      have hE : hasE A r p m = 0 := by unfold hasE; rw [if_pos h0, hmay]; rfl
      rw [hB, hE]
      obtain ⟨_, _, wf3, wf4⟩ := hA.wf i hlt
      go_enter Tryd.func21, Tryd.ntmps21
      go_wp2_with (first | (go_at_call 46; refine HA'.mono ?_; rintro e w1 ⟨rfl, hx1⟩; have hxb : Ext (w.alloc (.cells #[.slice fp A.feats.length fc, .slice lp A.lets.length lc] 26)) w1 := ((Ext.refl _).alloc _).trans hx1; have d0 := hxb.cell0 0; have d1 := hxb.cell0 1; simp at d0 d1; have hs1 := hxb.lt0) | (go_at_call 48; refine (May_any _ _ _ _ _ _ hp hm hfb _).mono ?_; rw [hmay]; rintro e w2 ⟨rfl, hx2⟩))
      obtain ⟨b, off, rfl, hbw⟩ := hA.lsome (by omega)
      have hxc := hxb.trans hx2
      have e0 := hxc.cell0 0
      have e1 := hxc.cell0 1
      simp at e0 e1
      have hAW := hA.mono ((hx3.trans hx1).trans hx2)
      obtain ⟨_, c0, c1, c2⟩ := hAW.lcell hlt
      have HF := Lib.hid (fun W (hW : Ext w2 W) => Find_any fp (some ⟨b, off, none⟩) fc lc A r W (hAW.mono hW))
      rw [hi] at HF
      clear d0 d1
      (refine wp_region_ext (by kernel_rfl) (by kernel_rfl) ?_; intro ι hι g hg; have q_e0 := hg.cell e0; have q_e1 := hg.cell e1; have q_c0 := hg.cell c0; have q_c1 := hg.cell c1; have q_c2 := hg.cell c2; clear e0 e1 c0 c1 c2; (repeat (go_big_quiet_step ((first | (go_at_call 47; exact hg.call (HF.out _ (hg.ext _))) | (go_at_call 49; exact hg.call (Like_any _ _ _ _ _ wf3 wf4 hp hm _)))))); refine wpQuiet_nil ?_; rintro w3 ⟨i2, rfl⟩; have hq := hg.ext i2; generalize g i2 = w3 at hq ⊢; clear q_e0 q_e1 q_c0 q_c1 q_c2 i2 hg g hι ι)
      go_wp2_with fail
      go_ret2
      exact ⟨rfl, ((hx3.trans hx1).trans hx2).trans hq⟩
  · have hne : (ofE A r != 0) = true := by rw [bne_iff_ne]; exact h0
    have hB : hasB A r p m = false := by unfold hasB hasE; rw [if_neg h0]; simp [h0]
    have hE : hasE A r p m = ofE A r := by unfold hasE; rw [if_neg h0]
    rw [hB, hE]
    go_enter Tryd.func21, Tryd.ntmps21
    go_wp2_with (first | (go_at_call 46; refine HA'.mono ?_; rintro e w1 ⟨rfl, hx1⟩))
    go_ret2
    exact ⟨rfl, hx3.trans hx1⟩

set_option maxRecDepth 100000 in
set_option maxHeartbeats 1000000 in
theorem Far02_any (fp lp : Option Addr) (fc lc : Nat) (A : Alpha) (x y : Int) (hx : -2147483648 ≤ x ∧ x ≤ 2147483647) (hy : -2147483648 ≤ y ∧ y ≤ 2147483647) (w : World) (hA : AlphaAt w fp lp A) :
    Calls Tryd.prog 23 #[.agg #[.slice fp A.feats.length fc, .slice lp A.lets.length lc], .int .i32 x, .int .i32 y] w fun e w' => e = .returned (.tuple #[.int .i64 (farN A x y : Nat), .int .i64 (farE A x y)]) ∧ Ext w w' := by
  have hx3 : Ext w ((w.alloc (.cells #[.slice fp A.feats.length fc, .slice lp A.lets.length lc] 26)).alloc (.cells #[.int .i32 x, .int .i32 y] 21)) := ((Ext.refl _).alloc _).alloc _
  have hR : RunesAt ((w.alloc (.cells #[.slice fp A.feats.length fc, .slice lp A.lets.length lc] 26)).alloc (.cells #[.int .i32 x, .int .i32 y] 21)) (some ⟨w.heap.size + 1, 0, none⟩) [x, y] :=
    RunesAt.two (w := w) (by have := heap_alloc_new (w.alloc (.cells #[.slice fp A.feats.length fc, .slice lp A.lets.length lc] 26)) (.cells #[.int .i32 x, .int .i32 y] 21); rw [size_alloc] at this; exact this) hx hy
  have HA := Lib.hid (asked_any fp lp _ fc lc 2 A [x, y] _ (hA.mono hx3) hR)
  rw [asked_two] at HA
  clear hR
  have HA' := HA.out
  clear HA
  by_cases h0 : farE A x y = 0
  · obtain ⟨hx0, hy0⟩ : ofE A x = 0 ∧ ofE A y = 0 := by
      unfold farE at h0
      split at h0
      · rename_i hh; exact ⟨hh, h0⟩
      · contradiction
    obtain ⟨hok, hf⟩ : A.Ok ∧ 0 ≤ findLetter A x := by rcases ofE_cases A x with ⟨_, h, h'⟩ | ⟨h, _⟩ | ⟨h, _⟩ <;> first | exact ⟨h, h'⟩ | omega
    have hf2 : 0 ≤ findLetter A y := by rcases ofE_cases A y with ⟨_, h, h'⟩ | ⟨h, _⟩ | ⟨h, _⟩ <;> first | exact h' | omega
    obtain ⟨ix, hix⟩ : ∃ ix : Int → Nat, ∀ r, 0 ≤ findLetter A r → findLetter A r = (ix r : Int) := ⟨fun r => (findLetter A r).toNat, fun r h => (Int.toNat_of_nonneg h).symm⟩
    have hi := hix x hf
    have hj := hix y hf2
    have hlt : ix x < A.lets.length := by obtain ⟨i, h1, h2, -⟩ := findLetter_some hf; omega
    have hlt2 : ix y < A.lets.length := by obtain ⟨i, h1, h2, -⟩ := findLetter_some hf2; omega
    have l1 := Ok_lt hok hlt
    have l2 := Ok_lt hok hlt2
    have h24 := pow24 hok.1
    have hB : farN A x y = pop 24 (((A.at_ (ix x)).plus ^^^ (A.at_ (ix y)).plus) ||| ((A.at_ (ix x)).minus ^^^ (A.at_ (ix y)).minus)) := by
      unfold farN; rw [if_pos h0, ofL_ok hok hi, ofL_ok hok hj]
      exact pop24 (by omega) (by omega) (by omega) (by omega)
    rw [hB]
    rw [h0] at HA' ⊢
    clear l1 l2 h24
    obtain ⟨_, _, wf3, wf4⟩ := hA.wf _ hlt
    obtain ⟨_, _, wf5, wf6⟩ := hA.wf _ hlt2
    go_enter Tryd.func23, Tryd.ntmps23
    go_wp2_with (first | (go_at_call 46; refine HA'.mono ?_; rintro e w1 ⟨rfl, hx1⟩; have hxb : Ext (w.alloc (.cells #[.slice fp A.feats.length fc, .slice lp A.lets.length lc] 26)) w1 := ((Ext.refl _).alloc _).trans hx1; have d0 := hxb.cell0 0; have d1 := hxb.cell0 1; simp at d0 d1; have hs1 := hxb.lt0))
    obtain ⟨b, off, rfl, hbw⟩ := hA.lsome (by omega)
    have hAW := hA.mono (hx3.trans hx1)
    obtain ⟨_, c0, c1, c2⟩ := hAW.lcell hlt
    obtain ⟨_, g0, g1, g2⟩ := hAW.lcell hlt2
    have HF := Lib.hid (fun W (hW : Ext w1 W) r (h : 0 ≤ findLetter A r) => by have := Find_any fp (some ⟨b, off, none⟩) fc lc A r W (hAW.mono hW); rw [hix r h] at this; exact this)
    clear hix hi hj
    (refine wp_region_ext (by kernel_rfl) (by kernel_rfl) ?_; intro ι hι g hg; have q_d0 := hg.cell d0; have q_d1 := hg.cell d1; have q_c0 := hg.cell c0; have q_c1 := hg.cell c1; have q_c2 := hg.cell c2; have q_g0 := hg.cell g0; have q_g1 := hg.cell g1; have q_g2 := hg.cell g2; clear d0 d1 c0 c1 c2 g0 g1 g2; (repeat (go_big_quiet_step ((first | (go_at_call 47; exact hg.call (HF.out _ (hg.ext _) _ (by assumption))) | (go_at_call 50; exact hg.call (Unlike_any _ _ _ _ _ _ wf3 wf4 wf5 wf6 _)))))); refine wpQuiet_nil ?_; rintro w3 ⟨i2, rfl⟩; have hq := hg.ext i2; generalize g i2 = w3 at hq ⊢; clear q_d0 q_d1 q_c0 q_c1 q_c2 q_g0 q_g1 q_g2 i2 hg g hι ι)
    go_wp2_with fail
    go_ret2
    exact ⟨rfl, (hx3.trans hx1).trans hq⟩
  · have hne : (farE A x y != 0) = true := by rw [bne_iff_ne]; exact h0
    have hB : farN A x y = 0 := by unfold farN; rw [if_neg h0]
    rw [hB]
    go_enter Tryd.func23, Tryd.ntmps23
    go_wp2_with (first | (go_at_call 46; refine HA'.mono ?_; rintro e w1 ⟨rfl, hx1⟩))
    go_ret2
    exact ⟨rfl, hx3.trans hx1⟩
end Go.Proofs.YtppbjeipfopehaaDoor
