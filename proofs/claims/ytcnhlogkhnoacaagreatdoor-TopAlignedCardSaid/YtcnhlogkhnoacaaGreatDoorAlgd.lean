/- Contract: align.filled: the table of least costs and of how many alignments have them. -/
import Derived.Test.YtcnhlogkhnoacaaGreatDoorAlgc
import Derived.Test.YtcnhlogkhnoacaaGreatDoorAlga
import Derived.Deep.Cut
namespace Go.Proofs.YtcnhlogkhnoacaaGreatDoor
open Go.RowKit Go.Cg Go.Shelf Go.Maps

set_option maxRecDepth 100000 in
set_option maxHeartbeats 4000000 in
theorem filled_any (fp lp xp yp : Option Addr) (fc lc xc yc : Nat) (A : Alpha) (x y : List Int) (hx : x.length ≤ 64) (hy : y.length ≤ 64) (w : World) (hA : AlphaAt w fp lp A) (hX : RunesAt w xp x) (hY : RunesAt w yp y) :
    Calls Tryz.prog 61 #[.agg #[.slice fp A.feats.length fc, .slice lp A.lets.length lc], .slice xp x.length xc, .slice yp y.length yc] w fun e w' => ∃ g, e = .returned (.pointer (some ⟨g, 0, none⟩)) ∧ w.heap.size ≤ g ∧ TabAt w' g 94 (.slice xp x.length xc) (.slice yp y.length yc) (fun i k => i ≤ x.length ∧ k ≤ y.length) (tc (farC A) x y) (tm (farC A) x y) ∧ Ext w w' := by
  have hx3 : Ext w (w.alloc (.cells #[.slice fp A.feats.length fc, .slice lp A.lets.length lc] 25)) := (Ext.refl _).alloc _
  have b1 : (x.length : Int) < 65 := by omega
  have b2 : (y.length : Int) < 65 := by omega
  have b3 : (0 : Int) ≤ (x.length : Int) := by omega
  have b4 : (0 : Int) ≤ (y.length : Int) := by omega
  have hNT := tabNew (.slice xp x.length xc) (.slice yp y.length yc)
  have hcl := hNT.2.2.2 (4227 + x.length * 65 + y.length) (by omega) (by omega)
  have HNT := Lib.hid hNT
  clear hNT
  have HCL := Lib.hid (fun i k => tc_le (farC A) hx hy i k)
  have HML := Lib.hid (fun i k => (tm_le (farC A) x y i k).2)
  have hce := tc_end (farC A) x y
  have hme := tm_end (farC A) x y
  obtain ⟨c, hc⟩ : ∃ c, tc (farC A) x y = c := ⟨_, rfl⟩
  obtain ⟨m, hm⟩ : ∃ m, tm (farC A) x y = m := ⟨_, rfl⟩
  rw [hc, hm]
  rw [hc] at hce HCL
  rw [hm] at hme HML
  have HC := Lib.hid hc
  have HM := Lib.hid hm
  have HCE := Lib.hid hce
  have HME := Lib.hid hme
  clear hc hm hce hme
  go_enter Tryz.func61, Tryz.ntmps61
  go_wp2_with fail
  obtain ⟨W0, hW0⟩ : ∃ W0, ((w.alloc (.cells #[.slice fp A.feats.length fc, .slice lp A.lets.length lc] 25)).alloc (.cells (((Tryz.zeroCells94.setIfInBounds 0 (.slice xp x.length xc)).setIfInBounds 1 (.slice yp y.length yc)).setIfInBounds (4227 + x.length * 65 + y.length) (.int .i64 1)) 94)) = W0 := ⟨_, rfl⟩
  have hE0 : Ext (w.alloc (.cells #[.slice fp A.feats.length fc, .slice lp A.lets.length lc] 25)) W0 := by rw [← hW0]; exact (Ext.refl _).alloc _
  have hg0 : W0.heap[w.heap.size + 1]? = some (.cells (((Tryz.zeroCells94.setIfInBounds 0 (.slice xp x.length xc)).setIfInBounds 1 (.slice yp y.length yc)).setIfInBounds (4227 + x.length * 65 + y.length) (.int .i64 1)) 94 (0, 0)) := by
    have := heap_alloc_new (w.alloc (.cells #[.slice fp A.feats.length fc, .slice lp A.lets.length lc] 25)) (.cells (((Tryz.zeroCells94.setIfInBounds 0 (.slice xp x.length xc)).setIfInBounds 1 (.slice yp y.length yc)).setIfInBounds (4227 + x.length * 65 + y.length) (.int .i64 1)) 94)
    rw [hW0, size_alloc] at this; exact this
  have hT0 : TabAt W0 (w.heap.size + 1) 94 (.slice xp x.length xc) (.slice yp y.length yc) (fun p q => p = x.length ∧ q = y.length) c m := tab_new (by omega) (by omega) hg0 HNT.out HCE.out HME.out
  rw [hW0]
  clear hW0 hg0 HNT hcl
  obtain ⟨g, hg⟩ : ∃ g, w.heap.size + 1 = g := ⟨_, rfl⟩
  rw [hg] at hT0 ⊢
  have hgw : w.heap.size < g := by omega
  have hgA : (w.alloc (.cells #[.slice fp A.feats.length fc, .slice lp A.lets.length lc] 25)).heap.size ≤ g := by rw [size_alloc]; omega
  clear hg
  have HFA := Lib.hid (fun W (hW : Ext w W) u v => farP_any fp lp fc lc A u v W (hA.mono hW))
  have HGA := Lib.hid hgA
  have HTX := Lib.hid hT0
  clear hT0 hgA
  go_loopw [8] (fun i wr => ∃ r : Nat, r ≤ x.length + 1 ∧ i = .int .i64 ((r : Int) - 1) ∧ Ext (w.alloc (.cells #[.slice fp A.feats.length fc, .slice lp A.lets.length lc] 25)) wr ∧ TabAt wr g 94 (.slice xp x.length xc) (.slice yp y.length yc) (fun p q => (r ≤ p ∧ p ≤ x.length ∧ q ≤ y.length) ∨ (p = x.length ∧ q = y.length)) c m) (fun i _ => (intOf i + 1).toNat)
  case atStart => exact ⟨x.length + 1, Nat.le_refl _, by congr 1; omega, hE0, HTX.out.weak (fun p q h => h.elim (fun h => by omega) id)⟩
  case round =>
    obtain ⟨r, hr, rfl, hxr, hTr⟩ := hrel
    rcases r with _ | i
    · have hfin : TabAt wr g 94 (.slice xp x.length xc) (.slice yp y.length yc) (fun p q => p ≤ x.length ∧ q ≤ y.length) c m := hTr.weak (fun p q h => .inl ⟨Nat.zero_le _, h.1, h.2⟩)
      go_wp2_with fail
      go_ret
      exact ⟨g, rfl, by omega, hfin, hxr.box⟩
    · have e8 : (((i + 1 : Nat) : Int) - 1) = (i : Int) := by omega
      rw [e8]
      go_wp2_with fail
      go_loopw [9] (fun k wq => ∃ s : Nat, s ≤ y.length + 1 ∧ k = .int .i64 ((s : Int) - 1) ∧ Ext (w.alloc (.cells #[.slice fp A.feats.length fc, .slice lp A.lets.length lc] 25)) wq ∧ TabAt wq g 94 (.slice xp x.length xc) (.slice yp y.length yc) (fun p q => (i + 1 ≤ p ∧ p ≤ x.length ∧ q ≤ y.length) ∨ (p = i ∧ s ≤ q ∧ q ≤ y.length) ∨ (p = x.length ∧ q = y.length)) c m) (fun k _ => (intOf k + 1).toNat)
      case atStart => exact ⟨y.length + 1, Nat.le_refl _, by congr 1; omega, hxr, hTr.weak (fun p q h => by omega)⟩
      case round =>
        obtain ⟨s, hs, rfl, hxq, hTq⟩ := hrel
        rcases s with _ | k
        · go_wp2_with fail
          exact ⟨⟨i, by omega, rfl, hxq, hTq.weak (fun p q h => by omega)⟩, by simp [intOf]⟩
        · have e9 : (((k + 1 : Nat) : Int) - 1) = (k : Int) := by omega
          rw [e9]
          by_cases hi : i = x.length
          · subst hi
            by_cases hk : k = y.length
            · subst hk
              go_wp2_with fail
              exact ⟨⟨y.length, by omega, rfl, hxq, hTq.weak (fun p q h => by omega)⟩, by simp [intOf]⟩
            · have hk' : k < y.length := by omega
              have gk : ((k : Int) == (y.length : Int)) = false := by rw [beq_eq_false_iff_ne]; omega
              have lk : decide ((k : Int) < (y.length : Int)) = true := decide_eq_true (by omega)
              have bk : (k : Int) < 64 := by omega
              have hsc : c x.length k = 5 + c x.length (k + 1) := by rw [← HC.out]; exact tc_right _ _ hk'
              have hsm : m x.length k = m x.length (k + 1) := by rw [← HM.out]; exact tm_right _ _ hk'
              have bc01 := HCL.out x.length (k + 1)
              have bm01 := HML.out x.length (k + 1)
              have g1 : ((1073741824 : Int) == 5 + ((c x.length (k + 1) : Nat) : Int)) = false := by rw [beq_eq_false_iff_ne]; omega
              have HSC := Lib.hid hsc
              have HSM := Lib.hid hsm
              clear hsc hsm
              have lg := hTq.lt
              have t01 := hTq.cost (i := x.length) (k := k + 1) (.inr (.inl ⟨rfl, by omega, by omega⟩)) (by omega) (by omega)
              have m01 := hTq.many (i := x.length) (k := k + 1) (.inr (.inl ⟨rfl, by omega, by omega⟩)) (by omega) (by omega)
              obtain ⟨o1, z1⟩ := hTq.old (j := 2 + x.length * 65 + k) (by omega) (by omega)
              obtain ⟨o2, z2⟩ := hTq.old (j := 4227 + x.length * 65 + k) (by omega) (by omega)
              have f1 := hTq.froz (2 + x.length * 65 + k)
              have f2 := hTq.froz (4227 + x.length * 65 + k)
              have hge := HGA.out
              go_wp2_with fail
              all_goals go_region
              all_goals (try go_wp2_with fail)
              all_goals refine ⟨⟨k, by omega, rfl, (((hxq.setCell hge _).setCell hge _).drew), ((hTq.put (i := x.length) (k := k) (by omega) (by omega) ?_ ?_).ext (Ext.refl _).drew).weak (fun p q h => by omega)⟩, by simp [intOf]⟩
              all_goals first | rfl | (have hsm := HSM.out; have hsc := HSC.out; congr 1; omega)
          · have hi' : i < x.length := by omega
            have gi : ((i : Int) == (x.length : Int)) = false := by rw [beq_eq_false_iff_ne]; omega
            have li : decide ((i : Int) < (x.length : Int)) = true := decide_eq_true (by omega)
            by_cases hk : k = y.length
            · subst hk
              have bi : (i : Int) < 64 := by omega
              have hsc : c i y.length = 5 + c (i + 1) y.length := by rw [← HC.out]; exact tc_left _ _ hi'
              have hsm : m i y.length = m (i + 1) y.length := by rw [← HM.out]; exact tm_left _ _ hi'
              have bc10 := HCL.out (i + 1) y.length
              have bm10 := HML.out (i + 1) y.length
              have g1 : ((1073741824 : Int) == 5 + ((c (i + 1) y.length : Nat) : Int)) = false := by rw [beq_eq_false_iff_ne]; omega
              have HSC := Lib.hid hsc
              have HSM := Lib.hid hsm
              clear hsc hsm
              have lg := hTq.lt
              have t10 := hTq.cost (i := i + 1) (k := y.length) (.inl ⟨by omega, by omega, by omega⟩) (by omega) (by omega)
              have m10 := hTq.many (i := i + 1) (k := y.length) (.inl ⟨by omega, by omega, by omega⟩) (by omega) (by omega)
              obtain ⟨o1, z1⟩ := hTq.old (j := 2 + i * 65 + y.length) (by omega) (by omega)
              obtain ⟨o2, z2⟩ := hTq.old (j := 4227 + i * 65 + y.length) (by omega) (by omega)
              have f1 := hTq.froz (2 + i * 65 + y.length)
              have f2 := hTq.froz (4227 + i * 65 + y.length)
              have hge := HGA.out
              go_wp2_with fail
              all_goals go_region
              all_goals (try go_wp2_with fail)
              all_goals refine ⟨⟨y.length, by omega, rfl, (((hxq.setCell hge _).setCell hge _).drew), ((hTq.put (i := i) (k := y.length) (by omega) (by omega) ?_ ?_).ext (Ext.refl _).drew).weak (fun p q h => by omega)⟩, by simp [intOf]⟩
              all_goals first | rfl | (have hsm := HSM.out; have hsc := HSC.out; congr 1; omega)
            · have hk' : k < y.length := by omega
              have gk : ((k : Int) == (y.length : Int)) = false := by rw [beq_eq_false_iff_ne]; omega
              have lk : decide ((k : Int) < (y.length : Int)) = true := decide_eq_true (by omega)
              have d0 := hxq.cell0 0
              have d1 := hxq.cell0 1
              have l0 := hxq.lt0
              simp at d0 d1
              obtain ⟨bx, ox, rfl, hbx, cx⟩ := (hX.mono hxq.box).cells hi'
              obtain ⟨byy, oy, rfl, hby, cy⟩ := (hY.mono hxq.box).cells hk'
              have lg := hTq.lt
              have t11 := hTq.cost (i := i + 1) (k := k + 1) (.inl ⟨by omega, by omega, by omega⟩) (by omega) (by omega)
              have HF := Lib.hid (HFA.out · · (rn x i) (rn y k))
              have bi : (i : Int) < 64 := by omega
              have bk : (k : Int) < 64 := by omega
              have ba := farC_le A (rn x i) (rn y k)
              have hsc : c i k = min (farC A (rn x i) (rn y k) + c (i + 1) (k + 1)) (min (5 + c (i + 1) k) (5 + c i (k + 1))) := by rw [← HC.out]; exact tc_both _ hi' hk'
              have hsm : m i k = min (((if farC A (rn x i) (rn y k) + c (i + 1) (k + 1) = c i k then m (i + 1) (k + 1) else 0) + (if 5 + c (i + 1) k = c i k then m (i + 1) k else 0)) + (if 5 + c i (k + 1) = c i k then m i (k + 1) else 0)) 1048577 := by rw [← HC.out, ← HM.out]; exact tm_both _ hi' hk'
              obtain ⟨fa, hfa⟩ : ∃ fa, farC A (rn x i) (rn y k) = fa := ⟨_, rfl⟩
              rw [hfa] at HF ba hsc hsm
              clear hfa
              have bc11 := HCL.out (i + 1) (k + 1)
              have bc10 := HCL.out (i + 1) k
              have bc01 := HCL.out i (k + 1)
              have bm11 := HML.out (i + 1) (k + 1)
              have bm10 := HML.out (i + 1) k
              have bm01 := HML.out i (k + 1)
              have HSC := Lib.hid hsc
              have HSM := Lib.hid hsm
              clear hsc hsm
              go_wp2_with fail
              (refine wp_region_ext (by kernel_rfl) (by kernel_rfl) ?_; intro ι hι g hg; have q_d0 := hg.cell d0; have q_d1 := hg.cell d1; have q_cx := hg.cell cx; have q_cy := hg.cell cy; have q_t11 := hg.cell t11; clear d0 d1 cx cy t11; (repeat (go_big_quiet_step ((go_at_call 62; exact hg.call (HF.out _ (hxq.box.trans (hg.ext _))))))); refine wpQuiet_nil ?_; rintro w2 ⟨i2, rfl⟩; have hq := hg.ext i2; generalize g i2 = w2 at hq ⊢; clear q_d0 q_d1 q_cx q_cy q_t11 i2 hg g hι ι)
              have hT2 := hTq.ext hq
              have lg := hT2.lt
              have t10 := hT2.cost (i := i + 1) (k := k) (.inl ⟨by omega, by omega, by omega⟩) (by omega) (by omega)
              have t01 := hT2.cost (i := i) (k := k + 1) (.inr (.inl ⟨rfl, by omega, by omega⟩)) (by omega) (by omega)
              have m11 := hT2.many (i := i + 1) (k := k + 1) (.inl ⟨by omega, by omega, by omega⟩) (by omega) (by omega)
              have m10 := hT2.many (i := i + 1) (k := k) (.inl ⟨by omega, by omega, by omega⟩) (by omega) (by omega)
              have m01 := hT2.many (i := i) (k := k + 1) (.inr (.inl ⟨rfl, by omega, by omega⟩)) (by omega) (by omega)
              obtain ⟨o1, z1⟩ := hT2.old (j := 2 + i * 65 + k) (by omega) (by omega)
              obtain ⟨o2, z2⟩ := hT2.old (j := 4227 + i * 65 + k) (by omega) (by omega)
              have f1 := hT2.froz (2 + i * 65 + k)
              have f2 := hT2.froz (4227 + i * 65 + k)
              have hge := HGA.out
              have e17 : (if (5 : Int) + (c i (k + 1) : Nat) < (if (5 : Int) + (c (i + 1) k : Nat) < (fa : Int) + (c (i + 1) (k + 1) : Nat) then (5 : Int) + (c (i + 1) k : Nat) else (fa : Int) + (c (i + 1) (k + 1) : Nat)) then (5 : Int) + (c i (k + 1) : Nat) else if (5 : Int) + (c (i + 1) k : Nat) < (fa : Int) + (c (i + 1) (k + 1) : Nat) then (5 : Int) + (c (i + 1) k : Nat) else (fa : Int) + (c (i + 1) (k + 1) : Nat)) = ((c i k : Nat) : Int) := by
                have hsc := HSC.out
                repeat' split
                all_goals omega
              have H17 := Lib.hid e17
              clear e17
              go_upto_region 18 with fail
              rw [H17.out]
              cases gB : ((fa : Int) + (c (i + 1) (k + 1) : Nat) == ((c i k : Nat) : Int)) <;> cases gL : ((5 : Int) + (c (i + 1) k : Nat) == ((c i k : Nat) : Int)) <;> cases gR : ((5 : Int) + (c i (k + 1) : Nat) == ((c i k : Nat) : Int))
              all_goals (have hB := gB; have hL := gL; have hR := gR; simp only [beq_iff_eq, beq_eq_false_iff_ne, ne_eq] at hB hL hR)
              · exfalso
                have hsc := HSC.out
                omega
              all_goals (have HB := Lib.hid hB; have HL := Lib.hid hL; have HR := Lib.hid hR; clear hB hL hR)
              all_goals go_wp2_with fail
              all_goals go_region
              all_goals (try go_wp2_with fail)
              all_goals refine ⟨⟨k, by omega, rfl, (((hxq.trans hq).setCell hge _).setCell hge _).drew, ((hT2.put (i := i) (k := k) (by omega) (by omega) ?_ ?_).ext (Ext.refl _).drew).weak (fun p q h => by omega)⟩, by simp [intOf]⟩
              all_goals first | rfl | (have hB := HB.out; have hL := HL.out; have hR := HR.out; have hsm := HSM.out; congr 1; (repeat' split at hsm) <;> omega)

end Go.Proofs.YtcnhlogkhnoacaaGreatDoor
