/- Contracts: slices.IndexFunc over letters, feature.Of, the reference's asked and Of. -/
import Derived.Test.YtcnhlogkhnoacaaGreatDoorFeate
import Derived.Test.YtcnhlogkhnoacaaGreatDoorSpeb
import Derived.Shelf.Abstract
namespace Go.Proofs.YtcnhlogkhnoacaaGreatDoor
open Go.RowKit Go.Cg Go.Shelf Go.Maps

set_option maxHeartbeats 400000 in
theorem IndexFunc_letters (fp lp : Option Addr) (lc : Nat) (A : Alpha) (f : FuncId) (cap : Array Value) (p : Nat → Bool) (w : World) (hA : AlphaAt w fp lp A)
    (eg : ∀ args W, (callFunc f args).run Tryz.prog W = .ok (.enter f args) W)
    (hf : ∀ i, i < A.lets.length → ∀ W, Ext w W → Calls Tryz.prog f (#[.agg #[.int .i32 (A.at_ i).rune, .int .u32 ((A.at_ i).plus : Int), .int .u32 ((A.at_ i).minus : Int)]] ++ cap) W fun e W' => e = .returned (.bool (p i)) ∧ Ext W W') (v : Int)
    (hv : (∃ i, i < A.lets.length ∧ p i = true ∧ (∀ j, j < i → p j = false) ∧ v = (i : Int)) ∨ ((∀ i, i < A.lets.length → p i = false) ∧ v = -1)) :
    Calls Tryz.prog 112 #[.slice lp A.lets.length lc, .func (.func f) #[] cap] w fun e w' => e = .returned (.int .i64 v) ∧ Ext w w' := by
  have hb := hA.lbig
  have HF := Lib.hid hf
  clear hf
  have HV := Lib.hid hv
  clear hv
  go_enter Tryz.func112, Tryz.ntmps112
  go_wp2_with fail
  go_loopw [4, 8] (fun r i wr => ∃ k : Nat, k ≤ A.lets.length ∧ Hid (∀ j, j < k → p j = false) ∧ i = .int .i64 k ∧ r = .int .i64 0 ∧ Ext w wr) (fun _ i _ => A.lets.length - (intOf i).toNat)
  case atStart => exact ⟨0, Nat.zero_le _, fun j hj => by omega, rfl, rfl, Ext.refl _⟩
  case round =>
    obtain ⟨k, hk, HN, rfl, rfl, hx⟩ := hrel
    by_cases hlt : k < A.lets.length
    · obtain ⟨b, off, rfl, hbw, c0, c1, c2⟩ := (hA.mono hx).cells hlt
      cases hp : p k
      · go_wp2_with ((refine (HF.out k hlt _ hx).mono ?_); rintro e w1 ⟨rfl, hx1⟩)
        refine ⟨⟨k + 1, by omega, upto_succ HN.out hp, by go_num, rfl, hx.trans hx1⟩, by simp [intOf]; omega⟩
      · go_wp2_with ((refine (HF.out k hlt _ hx).mono ?_); rintro e w1 ⟨rfl, hx1⟩)
        go_ret
        refine ⟨ret_int ?_, hx.trans hx1⟩
        rcases HV.out with ⟨i, hi, h1, h2, rfl⟩ | ⟨h1, _⟩
        · have : i = k := by
            rcases Nat.lt_trichotomy i k with h | h | h
            · rw [HN.out i h] at h1; cases h1
            · exact h
            · rw [h2 k h] at hp; cases hp
          rw [this]
        · rw [h1 k hlt] at hp; cases hp
    · go_wp2_with fail
      go_ret
      refine ⟨ret_int ?_, hx⟩
      rcases HV.out with ⟨i, hi, h1, h2, rfl⟩ | ⟨h1, rfl⟩
      · rw [HN.out i (by omega)] at h1; cases h1
      · rfl

set_option maxHeartbeats 400000 in
theorem of1_any (l : Letter) (r : Int) (B : Nat) (W : World) (hc : W.cell? ⟨B, 0, none⟩ = some (.int .i32 r)) (hB : B < W.heap.size) :
    Calls Tryz.prog 113 #[.agg #[.int .i32 l.rune, .int .u32 (l.plus : Int), .int .u32 (l.minus : Int)], .pointer (some ⟨B, 0, none⟩)] W fun e W' => e = .returned (.bool (l.rune == r)) ∧ Ext W W' := by
  go_enter Tryz.func113, Tryz.ntmps113
  go_wp2
  go_ret
  exact ⟨rfl, (Ext.refl _).alloc _⟩

theorem find_spec (A : Alpha) (r : Int) : (∃ i, i < A.lets.length ∧ ((A.at_ i).rune == r) = true ∧ (∀ j, j < i → ((A.at_ j).rune == r) = false) ∧ findLetter A r = (i : Int)) ∨ ((∀ i, i < A.lets.length → ((A.at_ i).rune == r) = false) ∧ findLetter A r = -1) := by
  by_cases h : 0 ≤ findLetter A r
  · obtain ⟨i, h1, h2, h3, h4⟩ := findLetter_some h
    exact .inl ⟨i, h2, by simpa using h3, fun j hj => by simpa using h4 j hj, h1⟩
  · refine .inr ⟨fun i hi => ?_, ?_⟩
    · cases hh : ((A.at_ i).rune == r)
      · rfl
      · exfalso; apply h
        have : A.lets.findIdx? (fun l => l.rune == r) ≠ none := by
          rw [Ne, List.findIdx?_eq_none_iff]
          intro hn
          have := hn _ (List.getElem_mem hi)
          rw [← Alpha.at_eq hi] at this
          rw [hh] at this; cases this
        unfold findLetter
        cases hf : A.lets.findIdx? (fun l => l.rune == r) with
        | none => exact absurd hf this
        | some j => simp
    · rcases findLetter_range A r with h1 | h1
      · omega
      · exact h1

set_option maxHeartbeats 400000 in
theorem of_any (fp lp : Option Addr) (fc lc : Nat) (A : Alpha) (r : Int) (w : World) (hA : AlphaAt w fp lp A) :
    Calls Tryz.prog 75 #[.agg #[.slice fp A.feats.length fc, .slice lp A.lets.length lc], .int .i32 r] w fun e w' => e = .returned (.tuple #[.agg #[.int .i32 (ofL A r).rune, .int .u32 ((ofL A r).plus : Int), .int .u32 ((ofL A r).minus : Int)], .int .i64 (ofE A r)]) ∧ Ext w w' := by
  have hb := hA.lbig
  have eg := @enters_of Tryz.prog 113 _ _ Tryz.func113 (by kernel_rfl) rfl
  have hx3 : Ext w (((w.alloc (.cells #[.slice fp A.feats.length fc, .slice lp A.lets.length lc] 25)).alloc (.cells #[.int .i32 r] 21)).alloc (.cells #[.int .i32 0, .int .u32 0, .int .u32 0] 114)) := (((Ext.refl _).alloc _).alloc _).alloc _
  by_cases hok : A.Ok
  · have hC := checkN_ok hok
    by_cases hf : 0 ≤ findLetter A r
    · obtain ⟨i, hi, hil, -⟩ := findLetter_some hf
      have hO := Lib.hid (ofL_ok hok hi)
      have hE := ofE_ok hok hf
      have hcon := fun (W : World) (hW : AlphaAt W fp lp A) (cap : Array Value) hfn => IndexFunc_letters fp lp lc A 113 cap (fun i => (A.at_ i).rune == r) W hW eg hfn i (by have := find_spec A r; rwa [hi] at this)
      have HC := Lib.hid hcon
      clear hcon hf hi
      obtain ⟨b, off, rfl, hbw⟩ := hA.lsome (by omega)
      go_enter Tryz.func75, Tryz.ntmps75
      go_wp2_with (first | (go_at_call 33; refine (check_any _ _ _ _ _ _ (hA.mono hx3)).mono ?_; rintro e w1 ⟨rfl, hx1⟩; obtain ⟨hc1, hf1, hs1⟩ := hx1.facts) | (go_at_call 112; refine (HC.out _ (hA.mono (hx3.trans hx1)) _ (fun j hj W hW => (by have hcW := (hW.facts.1 (w.heap.size + 1) 0 (by simp at hs1; omega)).trans (hc1 (w.heap.size + 1) 0 (by simp)); simpa using of1_any (A.at_ j) r (w.heap.size + 1) W (by rw [hcW]; simp [go_sem]) (by have := hW.le; simp at hs1; omega)))).mono ?_; rintro e w2 ⟨rfl, hx2⟩; obtain ⟨hc2, hf2, hs2⟩ := (hx1.trans hx2).facts; obtain ⟨hbw2, c0, c1, c2⟩ := ((hA.mono (hx3.trans hx1)).mono hx2).lcell hil))
      refine bodyPost_ret (v := .tuple #[.agg #[.int .i32 (A.at_ i).rune, .int .u32 ((A.at_ i).plus : Int), .int .u32 ((A.at_ i).minus : Int)], .int .i64 0]) (by simp [results, Tryz.results75, go_sem, hc2]) rfl ⟨by rw [hO.out, hE], ?_⟩
      have hx4 : Ext w w2 := hx3.trans (hx1.trans hx2)
      exact (by repeat (first | assumption | exact Ext.refl _ | refine Ext.alloc ?_ _ | refine Ext.drew ?_ | refine Ext.drewN ?_ _ | refine Ext.setCell ?_ (by first | (simp; done) | (simp; omega) | omega) _ | (refine Ext.trans ?_ (by assumption))))
    · have hv : findLetter A r = -1 := by
        rcases findLetter_range A r with h | h
        · omega
        · exact h
      have hO := Lib.hid (ofL_none hf)
      have hE := ofE_none hok hf
      have hcon := fun (W : World) (hW : AlphaAt W fp lp A) (cap : Array Value) hfn => IndexFunc_letters fp lp lc A 113 cap (fun i => (A.at_ i).rune == r) W hW eg hfn (-1) (by have := find_spec A r; rwa [hv] at this)
      have HC := Lib.hid hcon
      clear hcon hf hv
      go_enter Tryz.func75, Tryz.ntmps75
      go_wp2_with (first | (go_at_call 33; refine (check_any _ _ _ _ _ _ (hA.mono hx3)).mono ?_; rintro e w1 ⟨rfl, hx1⟩; obtain ⟨hc1, hf1, hs1⟩ := hx1.facts) | (go_at_call 112; refine (HC.out _ (hA.mono (hx3.trans hx1)) _ (fun j hj W hW => (by have hcW := (hW.facts.1 (w.heap.size + 1) 0 (by simp at hs1; omega)).trans (hc1 (w.heap.size + 1) 0 (by simp)); simpa using of1_any (A.at_ j) r (w.heap.size + 1) W (by rw [hcW]; simp [go_sem]) (by have := hW.le; simp at hs1; omega)))).mono ?_; rintro e w2 ⟨rfl, hx2⟩; obtain ⟨hc2, hf2, hs2⟩ := (hx1.trans hx2).facts))
      refine bodyPost_ret (v := .tuple #[.agg #[.int .i32 0, .int .u32 0, .int .u32 0], .int .i64 5]) (by simp [results, Tryz.results75, go_sem, hc2]) rfl ⟨by rw [hO.out, hE]; rfl, ?_⟩
      have hx4 : Ext w w2 := hx3.trans (hx1.trans hx2)
      exact (by repeat (first | assumption | exact Ext.refl _ | refine Ext.alloc ?_ _ | refine Ext.drew ?_ | refine Ext.drewN ?_ _ | refine Ext.setCell ?_ (by first | (simp; done) | (simp; omega) | omega) _ | (refine Ext.trans ?_ (by assumption))))
  · have hC := checkN_bad hok
    have hO := Lib.hid (ofL_bad hok r)
    have hE := ofE_bad hok r
    go_enter Tryz.func75, Tryz.ntmps75
    go_wp2_with (first | (go_at_call 33; refine (check_any _ _ _ _ _ _ (hA.mono hx3)).mono ?_; rintro e w1 ⟨rfl, hx1⟩; obtain ⟨hc1, hf1, hs1⟩ := hx1.facts))
    refine bodyPost_ret (v := .tuple #[.agg #[.int .i32 0, .int .u32 0, .int .u32 0], .int .i64 7]) (by simp [results, Tryz.results75, go_sem, hc1]) rfl ⟨by rw [hO.out, hE]; rfl, ?_⟩
    have hx4 : Ext w w1 := hx3.trans hx1
    exact (by repeat (first | assumption | exact Ext.refl _ | refine Ext.alloc ?_ _ | refine Ext.drew ?_ | refine Ext.drewN ?_ _ | refine Ext.setCell ?_ (by first | (simp; done) | (simp; omega) | omega) _ | (refine Ext.trans ?_ (by assumption))))

end Go.Proofs.YtcnhlogkhnoacaaGreatDoor
