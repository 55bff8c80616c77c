/- Contracts: the table's first alignment; align.tabled, Words, Many. -/
import Derived.Test.YtcnhlogkhnoacaaGreatDoorAlgd
import Derived.Test.YtcnhlogkhnoacaaGreatDoorAlgw
import Derived.Test.YtcnhlogkhnoacaaGreatDoorAlgp
import Derived.Test.YtcnhlogkhnoacaaGreatDoorHeld
import Derived.Deep.RegionLawGrows
namespace Go.Cg
open Go.RowKit
theorem fst1_mem (fr : Int → Int → Nat) : ∀ (x y : List Int), ∀ p ∈ fst1 fr x y, (p.1 = 0 ∨ p.1 ∈ x) ∧ (p.2 = 0 ∨ p.2 ∈ y)
  | [], [], p, h => by rw [fst1_nil] at h; cases h
  | x :: xs, [], p, h => by
    rw [fst1_left] at h
    rcases List.mem_cons.1 h with rfl | h
    · exact ⟨.inr (List.mem_cons_self ..), .inl rfl⟩
    · obtain ⟨a, b⟩ := fst1_mem fr xs [] p h
      exact ⟨a.imp id (List.mem_cons_of_mem _), b⟩
  | [], y :: ys, p, h => by
    rw [fst1_right] at h
    rcases List.mem_cons.1 h with rfl | h
    · exact ⟨.inl rfl, .inr (List.mem_cons_self ..)⟩
    · obtain ⟨a, b⟩ := fst1_mem fr [] ys p h
      exact ⟨a, b.imp id (List.mem_cons_of_mem _)⟩
  | x :: xs, y :: ys, p, h => by
    rw [fst1_both] at h
    split at h
    · rcases List.mem_cons.1 h with rfl | h
      · exact ⟨.inr (List.mem_cons_self ..), .inr (List.mem_cons_self ..)⟩
      · obtain ⟨a, b⟩ := fst1_mem fr xs ys p h
        exact ⟨a.imp id (List.mem_cons_of_mem _), b.imp id (List.mem_cons_of_mem _)⟩
    · split at h
      · rcases List.mem_cons.1 h with rfl | h
        · exact ⟨.inr (List.mem_cons_self ..), .inl rfl⟩
        · obtain ⟨a, b⟩ := fst1_mem fr xs (y :: ys) p h
          exact ⟨a.imp id (List.mem_cons_of_mem _), b⟩
      · rcases List.mem_cons.1 h with rfl | h
        · exact ⟨.inl rfl, .inr (List.mem_cons_self ..)⟩
        · obtain ⟨a, b⟩ := fst1_mem fr (x :: xs) ys p h
          exact ⟨a, b.imp id (List.mem_cons_of_mem _)⟩
termination_by x y => x.length + y.length
theorem rn_mem {l : List Int} {r : Int} (h : r ∈ l) : ∃ i, i < l.length ∧ rn l i = r := by
  obtain ⟨i, hi, e⟩ := List.getElem_of_mem h
  exact ⟨i, hi, by rw [rn_eq hi, e]⟩
theorem fst1_wf {w : World} {xp yp : Option Addr} {x y : List Int} (fr : Int → Int → Nat) (hX : RunesAt w xp x) (hY : RunesAt w yp y) : ∀ i, i < (fst1 fr x y).length → (-2147483648 ≤ pA (fst1 fr x y) i ∧ pA (fst1 fr x y) i ≤ 2147483647) ∧ -2147483648 ≤ pB (fst1 fr x y) i ∧ pB (fst1 fr x y) i ≤ 2147483647 :=
  mem_pairs (q := fun r => -2147483648 ≤ r ∧ r ≤ 2147483647) fun p hp => by
    obtain ⟨a, b⟩ := fst1_mem fr x y p hp
    constructor
    · rcases a with a | a
      · rw [a]; decide
      · obtain ⟨i, hi, e⟩ := rn_mem a
        rw [← e]; exact hX.wf i hi
    · rcases b with b | b
      · rw [b]; decide
      · obtain ⟨i, hi, e⟩ := rn_mem b
        rw [← e]; exact hY.wf i hi
end Go.Cg
namespace Go.Proofs.YtcnhlogkhnoacaaGreatDoor
open Go.RowKit Go.Cg Go.Shelf Go.Maps

theorem infoPa : (Tryz.prog.info? 97).map (fun i => (i.zero, i.size, i.bytes)) = some (some (.agg #[.int .i32 0, .int .i32 0]), 2, 8) := by kernel_rfl

set_option maxRecDepth 100000 in
set_option maxHeartbeats 4000000 in
theorem first_any (fp lp xp yp : Option Addr) (fc lc xc yc g : Nat) (A : Alpha) (x y : List Int) (m : Nat → Nat → Nat) (hx : x.length ≤ 64) (hy : y.length ≤ 64) (w : World) (hA : AlphaAt w fp lp A) (hX : RunesAt w xp x) (hY : RunesAt w yp y)
    (hT : TabAt w g 94 (.slice xp x.length xc) (.slice yp y.length yc) (fun i k => i ≤ x.length ∧ k ≤ y.length) (tc (farC A) x y) m) :
    Calls Tryz.prog 32 #[.pointer (some ⟨g, 0, none⟩), .agg #[.slice fp A.feats.length fc, .slice lp A.lets.length lc]] w fun e w' => ∃ p c, e = .returned (.slice p (fst1 (farC A) x y).length c) ∧ OwnPairs 97 w.heap.size w' p c (fst1 (farC A) x y) ∧ Ext w w' := by
  have hx3 : Ext w (w.alloc (.cells #[.slice fp A.feats.length fc, .slice lp A.lets.length lc] 25)) := (Ext.refl _).alloc _
  obtain ⟨i0, hi, hz0, hz1, hz2⟩ := info_parts infoPa
  have hwf := fst1_wf (farC A) hX hY
  obtain ⟨F, hF⟩ : ∃ F, fst1 (farC A) x y = F := ⟨_, rfl⟩
  have hF0 : tf (farC A) x y 0 0 = F := hF
  have hFe := tf_end (farC A) x y
  have HFL := Lib.hid (fun k hk => tf_left (farC A) y (i := k) (x := x) hk)
  have HFR := Lib.hid (fun k hk => tf_right (farC A) x (k := k) (y := y) hk)
  have HFB := Lib.hid (fun i k (hi : i < x.length) (hk : k < y.length) => tf_both (farC A) (x := x) (y := y) (i := i) (k := k) hi hk)
  have HCL := Lib.hid (fun i k => tc_le (farC A) hx hy i k)
  have HCe := Lib.hid (fun k hk => tc_left (farC A) y (i := k) (x := x) hk)
  rw [hF] at hwf ⊢
  clear hF
  obtain ⟨T, hTf⟩ : ∃ T, tf (farC A) x y = T := ⟨_, rfl⟩
  rw [hTf] at hF0 hFe HFL HFR HFB
  obtain ⟨c, hc⟩ : ∃ c, tc (farC A) x y = c := ⟨_, rfl⟩
  rw [hc] at hT HFB HCL HCe
  clear hTf hc
  have HWF := Lib.hid hwf
  have HFE := Lib.hid hFe
  have HF0 := Lib.hid hF0
  have HFA := Lib.hid (fun W (hW : Ext w W) u v => farP_any fp lp fc lc A u v W (hA.mono hW))
  have HFX := Lib.hid (fun u v => farC_le A u v)
  clear hwf hFe hF0
  have b1 : (x.length : Int) ≤ 64 := by omega
  have b2 : (y.length : Int) ≤ 64 := by omega
  have hlg := hT.lt
  have hl2 := (hT.ext hx3).left
  go_enter Tryz.func32, Tryz.ntmps32
  go_wp2_with fail
  go_loopw [5, 6, 7] (fun l iv kv wr => ∃ (i k : Nat) (done : List (Int × Int)), i ≤ x.length ∧ k ≤ y.length ∧ iv = .int .i64 i ∧ kv = .int .i64 k ∧ Ext (w.alloc (.cells #[.slice fp A.feats.length fc, .slice lp A.lets.length lc] 25)) wr ∧ wr.ownsRow (w.heap.size + 1) 97 2 l done.length (pairRow done) ∧ done.length ≤ i + k ∧ Hid (done ++ T i k = F)) (fun _ iv kv _ => (x.length + y.length) - (intOf iv + intOf kv).toNat)
  case atStart => exact ⟨0, 0, [], Nat.zero_le _, Nat.zero_le _, rfl, rfl, Ext.refl _, World.ownsRow_nil _ _ _ _, by simp, by rw [List.nil_append]; exact HF0.out⟩
  case round =>
    obtain ⟨i, k, done, hi', hk', rfl, rfl, hxq, hown, hdl, HD⟩ := hrel
    obtain ⟨rp, rc, rfl⟩ := ownsRow_slice hown
    have d0 := hxq.cell0 0
    have d1 := hxq.cell0 1
    have l0 := hxq.lt0
    simp at d0 d1
    have hTq := hT.ext hxq.box
    have lg := hTq.lt
    obtain ⟨t0, t1⟩ := hTq.left
    have hb : w.heap.size + 1 ≤ wr.heap.size := by omega
    by_cases hi2 : i < x.length
    · obtain ⟨bx, ox, e0, hbx, cx⟩ := (hX.mono hxq.box).cells hi2
      subst e0
      have li : decide ((i : Int) < (x.length : Int)) = true := decide_eq_true (by omega)
      have bi : (i : Int) < 64 := by omega
      by_cases hk2 : k < y.length
      · obtain ⟨byy, oy, e1, hby, cy⟩ := (hY.mono hxq.box).cells hk2
        subst e1
        have lk : decide ((k : Int) < (y.length : Int)) = true := decide_eq_true (by omega)
        have bk : (k : Int) < 64 := by omega
        have cc := hTq.cost (i := i) (k := k) ⟨by omega, by omega⟩ (by omega) (by omega)
        have c11 := hTq.cost (i := i + 1) (k := k + 1) ⟨by omega, by omega⟩ (by omega) (by omega)
        have HF := Lib.hid (HFA.out · · (rn x i) (rn y k))
        have ba := HFX.out (rn x i) (rn y k)
        have hst := HFB.out i k hi2 hk2
        have hd := HD.out
        rw [hst] at hd
        obtain ⟨fa, hfa⟩ : ∃ fa, farC A (rn x i) (rn y k) = fa := ⟨_, rfl⟩
        rw [hfa] at HF ba hd
        clear hfa hst
        have bc := HCL.out i k
        have bc11 := HCL.out (i + 1) (k + 1)
        have bc10 := HCL.out (i + 1) k
        cases gB : (((c i k : Nat) : Int) == (fa : Int) + (c (i + 1) (k + 1) : Nat))
        · have gn : ¬ c i k = fa + c (i + 1) (k + 1) := by rw [beq_eq_false_iff_ne] at gB; omega
          rw [if_neg gn] at hd
          clear gn
          cases gL : (((c i k : Nat) : Int) == (5 : Int) + (c (i + 1) k : Nat))
          · have gn : ¬ c i k = 5 + c (i + 1) k := by rw [beq_eq_false_iff_ne] at gL; omega
            rw [if_neg gn] at hd
            clear gn
            have HD2 := Lib.hid hd
            clear hd
            go_wp2_with fail
            (refine wp_region_ext (by kernel_rfl) (by kernel_rfl) ?_; intro ι hι g hg; have q_d0 := hg.cell d0; have q_d1 := hg.cell d1; have q_t0 := hg.cell t0; have q_t1 := hg.cell t1; have q_cx := hg.cell cx; have q_cy := hg.cell cy; have q_c11 := hg.cell c11; clear d0 d1 t0 t1 cx cy c11; (repeat (go_big_quiet_step ((go_at_call 62; exact hg.call (HF.out _ (hxq.box.trans (hg.ext _))))))); refine wpQuiet_nil ?_; rintro w2 ⟨i2, rfl⟩; have hq := hg.ext i2; generalize g i2 = w2 at hq ⊢; clear q_d0 q_d1 q_t0 q_t1 q_cx q_cy q_c11 i2 hg g hι ι)
            have hxw : Ext (w.alloc (.cells #[.slice fp A.feats.length fc, .slice lp A.lets.length lc] 25)) w2 := hxq.trans hq
            have hb2 : w.heap.size + 1 ≤ w2.heap.size := Nat.le_trans hb hq.le
            have hT2 := hTq.ext hq
            have lg := hT2.lt
            obtain ⟨t0, t1⟩ := hT2.left
            have c10 := hT2.cost (i := i + 1) (k := k) ⟨by omega, by omega⟩ (by omega) (by omega)
            obtain ⟨_, cy⟩ := (hY.mono hxw.box).cell hk2
            go_wp2_with (at_builtin; go_loud (refine wpList_append_own _ rfl _ _ 29 rfl (w.heap.size + 1) 97 i0 (.agg #[.int .i32 0, .int .i32 0]) 2 8 Tryz.underlying29 hi hz0 hz1 hz2 rfl (by decide) (.slice rp done.length rc) done.length (pairRow done) rfl (ownsRow_ext hown (by repeat (first | assumption | exact Ext.refl _ | refine Ext.alloc ?_ _ | refine Ext.drew ?_ | refine Ext.drewN ?_ _ | refine Ext.setCell ?_ (by first | (simp; done) | (simp; omega) | omega) _ | (refine Ext.trans ?_ (by assumption))))) ⟨w2.heap.size, 0, none⟩ 1 1 [.int .i32 (0), .int .i32 (rn y k)] rfl rfl (two_cells' _ _ _ _) (by simp [Value.oneCell']) (by unfold maxLen; omega) (by omega) (by simp; omega) ?_); intro v' w4 hown4 hgrow _)
            refine ⟨⟨i, k + 1, done ++ [(0, rn y k)], by omega, by omega, by go_num, by go_num, Ext.append (by repeat (first | assumption | exact Ext.refl _ | refine Ext.alloc ?_ _ | refine Ext.drew ?_ | refine Ext.drewN ?_ _ | refine Ext.setCell ?_ (by first | (simp; done) | (simp; omega) | omega) _ | (refine Ext.trans ?_ (by assumption)))) (ownsRow_ext hown (by repeat (first | assumption | exact Ext.refl _ | refine Ext.alloc ?_ _ | refine Ext.drew ?_ | refine Ext.drewN ?_ _ | refine Ext.setCell ?_ (by first | (simp; done) | (simp; omega) | omega) _ | (refine Ext.trans ?_ (by assumption))))) hgrow (by rw [size_alloc]; exact Nat.le_refl _), ?_, by simp; omega, ?_⟩, by simp [intOf]; omega⟩
            · rw [List.length_append, pairRow_append]; exact hown4
            · have e : (done ++ [(0, rn y k)]) ++ T (i) (k + 1) = F := by rw [List.append_assoc]; exact HD2.out
              exact e
          · have gn : c i k = 5 + c (i + 1) k := by rw [beq_iff_eq] at gL; omega
            rw [if_pos gn] at hd
            clear gn
            have HD2 := Lib.hid hd
            clear hd
            go_wp2_with fail
            (refine wp_region_ext (by kernel_rfl) (by kernel_rfl) ?_; intro ι hι g hg; have q_d0 := hg.cell d0; have q_d1 := hg.cell d1; have q_t0 := hg.cell t0; have q_t1 := hg.cell t1; have q_cx := hg.cell cx; have q_cy := hg.cell cy; have q_c11 := hg.cell c11; clear d0 d1 t0 t1 cx cy c11; (repeat (go_big_quiet_step ((go_at_call 62; exact hg.call (HF.out _ (hxq.box.trans (hg.ext _))))))); refine wpQuiet_nil ?_; rintro w2 ⟨i2, rfl⟩; have hq := hg.ext i2; generalize g i2 = w2 at hq ⊢; clear q_d0 q_d1 q_t0 q_t1 q_cx q_cy q_c11 i2 hg g hι ι)
            have hxw : Ext (w.alloc (.cells #[.slice fp A.feats.length fc, .slice lp A.lets.length lc] 25)) w2 := hxq.trans hq
            have hb2 : w.heap.size + 1 ≤ w2.heap.size := Nat.le_trans hb hq.le
            have hT2 := hTq.ext hq
            have lg := hT2.lt
            obtain ⟨t0, t1⟩ := hT2.left
            have c10 := hT2.cost (i := i + 1) (k := k) ⟨by omega, by omega⟩ (by omega) (by omega)
            obtain ⟨_, cx⟩ := (hX.mono hxw.box).cell hi2
            go_wp2_with (at_builtin; go_loud (refine wpList_append_own _ rfl _ _ 29 rfl (w.heap.size + 1) 97 i0 (.agg #[.int .i32 0, .int .i32 0]) 2 8 Tryz.underlying29 hi hz0 hz1 hz2 rfl (by decide) (.slice rp done.length rc) done.length (pairRow done) rfl (ownsRow_ext hown (by repeat (first | assumption | exact Ext.refl _ | refine Ext.alloc ?_ _ | refine Ext.drew ?_ | refine Ext.drewN ?_ _ | refine Ext.setCell ?_ (by first | (simp; done) | (simp; omega) | omega) _ | (refine Ext.trans ?_ (by assumption))))) ⟨w2.heap.size, 0, none⟩ 1 1 [.int .i32 (rn x i), .int .i32 (0)] rfl rfl (two_cells' _ _ _ _) (by simp [Value.oneCell']) (by unfold maxLen; omega) (by omega) (by simp; omega) ?_); intro v' w4 hown4 hgrow _)
            refine ⟨⟨i + 1, k, done ++ [(rn x i, 0)], by omega, by omega, by go_num, by go_num, Ext.append (by repeat (first | assumption | exact Ext.refl _ | refine Ext.alloc ?_ _ | refine Ext.drew ?_ | refine Ext.drewN ?_ _ | refine Ext.setCell ?_ (by first | (simp; done) | (simp; omega) | omega) _ | (refine Ext.trans ?_ (by assumption)))) (ownsRow_ext hown (by repeat (first | assumption | exact Ext.refl _ | refine Ext.alloc ?_ _ | refine Ext.drew ?_ | refine Ext.drewN ?_ _ | refine Ext.setCell ?_ (by first | (simp; done) | (simp; omega) | omega) _ | (refine Ext.trans ?_ (by assumption))))) hgrow (by rw [size_alloc]; exact Nat.le_refl _), ?_, by simp; omega, ?_⟩, by simp [intOf]; omega⟩
            · rw [List.length_append, pairRow_append]; exact hown4
            · have e : (done ++ [(rn x i, 0)]) ++ T (i + 1) (k) = F := by rw [List.append_assoc]; exact HD2.out
              exact e
        · have gn : c i k = fa + c (i + 1) (k + 1) := by rw [beq_iff_eq] at gB; omega
          rw [if_pos gn] at hd
          clear gn
          have HD2 := Lib.hid hd
          clear hd
          go_wp2_with fail
          (refine wp_region_ext (by kernel_rfl) (by kernel_rfl) ?_; intro ι hι g hg; have q_d0 := hg.cell d0; have q_d1 := hg.cell d1; have q_t0 := hg.cell t0; have q_t1 := hg.cell t1; have q_cx := hg.cell cx; have q_cy := hg.cell cy; have q_c11 := hg.cell c11; clear d0 d1 t0 t1 cx cy c11; (repeat (go_big_quiet_step ((go_at_call 62; exact hg.call (HF.out _ (hxq.box.trans (hg.ext _))))))); refine wpQuiet_nil ?_; rintro w2 ⟨i2, rfl⟩; have hq := hg.ext i2; generalize g i2 = w2 at hq ⊢; clear q_d0 q_d1 q_t0 q_t1 q_cx q_cy q_c11 i2 hg g hι ι)
          have hxw : Ext (w.alloc (.cells #[.slice fp A.feats.length fc, .slice lp A.lets.length lc] 25)) w2 := hxq.trans hq
          have hb2 : w.heap.size + 1 ≤ w2.heap.size := Nat.le_trans hb hq.le
          have hT2 := hTq.ext hq
          have lg := hT2.lt
          obtain ⟨t0, t1⟩ := hT2.left
          obtain ⟨_, cx⟩ := (hX.mono hxw.box).cell hi2
          obtain ⟨_, cy⟩ := (hY.mono hxw.box).cell hk2
          go_wp2_with fail
          go_region_law (refine step_append_own rfl (.tmp 94) (.tmp 110) 29 rfl (w.heap.size + 1) 97 i0 (.agg #[.int .i32 0, .int .i32 0]) 2 8 Tryz.underlying29 hi hz0 hz1 hz2 rfl (by decide) (.slice rp done.length rc) done.length (pairRow done) (by simp [Act.eval]) (ownsRow_ext hown (by repeat (first | assumption | exact Ext.refl _ | refine Ext.alloc ?_ _ | refine Ext.drew ?_ | refine Ext.drewN ?_ _ | refine Ext.setCell ?_ (by first | (simp; done) | (simp; omega) | omega) _ | (refine Ext.trans ?_ (by assumption))))) ⟨w2.heap.size, 0, none⟩ 1 1 [.int .i32 (rn x i), .int .i32 (rn y k)] (by simp [Act.eval]) rfl (two_cells' _ _ _ _) (by simp [Value.oneCell']) (by unfold maxLen; omega) (by omega) (by simp; omega) ?_; intro v' w4 hown4 hgrow)
          all_goals go_wp2_with fail
          all_goals
            refine ⟨⟨i + 1, k + 1, done ++ [(rn x i, rn y k)], by omega, by omega, by go_num, by go_num, Ext.append (by repeat (first | assumption | exact Ext.refl _ | refine Ext.alloc ?_ _ | refine Ext.drew ?_ | refine Ext.drewN ?_ _ | refine Ext.setCell ?_ (by first | (simp; done) | (simp; omega) | omega) _ | (refine Ext.trans ?_ (by assumption)))) (ownsRow_ext hown (by repeat (first | assumption | exact Ext.refl _ | refine Ext.alloc ?_ _ | refine Ext.drew ?_ | refine Ext.drewN ?_ _ | refine Ext.setCell ?_ (by first | (simp; done) | (simp; omega) | omega) _ | (refine Ext.trans ?_ (by assumption))))) hgrow (by rw [size_alloc]; exact Nat.le_refl _), ?_, by simp; omega, ?_⟩, by simp [intOf]; omega⟩
            · rw [List.length_append, pairRow_append]; exact hown4
            · have e : (done ++ [(rn x i, rn y k)]) ++ T (i + 1) (k + 1) = F := by rw [List.append_assoc]; exact HD2.out
              exact e
      · have e : k = y.length := by omega
        subst e
        have cc := hTq.cost (i := i) (k := y.length) ⟨by omega, by omega⟩ (by omega) (by omega)
        have hd := HD.out
        rw [HFL.out i hi2] at hd
        have HD2 := Lib.hid hd
        clear hd
        have bc := HCL.out i y.length
        have bc10 := HCL.out (i + 1) y.length
        have gL : (((c i y.length : Nat) : Int) == (5 : Int) + (c (i + 1) y.length : Nat)) = true := by rw [beq_iff_eq, HCe.out i hi2]; omega
        go_wp2_with fail
        (refine wp_region_ext (by kernel_rfl) (by kernel_rfl) ?_; intro ι hι g hg; have q_t0 := hg.cell t0; have q_t1 := hg.cell t1; clear t0 t1; (repeat (go_big_quiet_step (fail))); refine wpQuiet_nil ?_; rintro w2 ⟨i2, rfl⟩; have hq := hg.ext i2; generalize g i2 = w2 at hq ⊢; clear q_t0 q_t1 i2 hg g hι ι)
        have hxw : Ext (w.alloc (.cells #[.slice fp A.feats.length fc, .slice lp A.lets.length lc] 25)) w2 := hxq.trans hq
        have hb2 : w.heap.size + 1 ≤ w2.heap.size := Nat.le_trans hb hq.le
        have hT2 := hTq.ext hq
        have lg := hT2.lt
        obtain ⟨t0, t1⟩ := hT2.left
        have c10 := hT2.cost (i := i + 1) (k := y.length) ⟨by omega, by omega⟩ (by omega) (by omega)
        obtain ⟨_, cx⟩ := (hX.mono hxw.box).cell hi2
        go_wp2_with (at_builtin; go_loud (refine wpList_append_own _ rfl _ _ 29 rfl (w.heap.size + 1) 97 i0 (.agg #[.int .i32 0, .int .i32 0]) 2 8 Tryz.underlying29 hi hz0 hz1 hz2 rfl (by decide) (.slice rp done.length rc) done.length (pairRow done) rfl (ownsRow_ext hown (by repeat (first | assumption | exact Ext.refl _ | refine Ext.alloc ?_ _ | refine Ext.drew ?_ | refine Ext.drewN ?_ _ | refine Ext.setCell ?_ (by first | (simp; done) | (simp; omega) | omega) _ | (refine Ext.trans ?_ (by assumption))))) ⟨w2.heap.size, 0, none⟩ 1 1 [.int .i32 (rn x i), .int .i32 (0)] rfl rfl (two_cells' _ _ _ _) (by simp [Value.oneCell']) (by unfold maxLen; omega) (by omega) (by simp; omega) ?_); intro v' w4 hown4 hgrow _)
        refine ⟨⟨i + 1, y.length, done ++ [(rn x i, 0)], by omega, by omega, by go_num, by go_num, Ext.append (by repeat (first | assumption | exact Ext.refl _ | refine Ext.alloc ?_ _ | refine Ext.drew ?_ | refine Ext.drewN ?_ _ | refine Ext.setCell ?_ (by first | (simp; done) | (simp; omega) | omega) _ | (refine Ext.trans ?_ (by assumption)))) (ownsRow_ext hown (by repeat (first | assumption | exact Ext.refl _ | refine Ext.alloc ?_ _ | refine Ext.drew ?_ | refine Ext.drewN ?_ _ | refine Ext.setCell ?_ (by first | (simp; done) | (simp; omega) | omega) _ | (refine Ext.trans ?_ (by assumption))))) hgrow (by rw [size_alloc]; exact Nat.le_refl _), ?_, by simp; omega, ?_⟩, by simp [intOf]; omega⟩
        · rw [List.length_append, pairRow_append]; exact hown4
        · have e : (done ++ [(rn x i, 0)]) ++ T (i + 1) (y.length) = F := by rw [List.append_assoc]; exact HD2.out
          exact e
    · have e : i = x.length := by omega
      subst e
      by_cases hk2 : k < y.length
      · obtain ⟨byy, oy, e1, hby, cy⟩ := (hY.mono hxq.box).cells hk2
        subst e1
        have lk : decide ((k : Int) < (y.length : Int)) = true := decide_eq_true (by omega)
        have bk : (k : Int) < 64 := by omega
        have cc := hTq.cost (i := x.length) (k := k) ⟨by omega, by omega⟩ (by omega) (by omega)
        have hd := HD.out
        rw [HFR.out k hk2] at hd
        have HD2 := Lib.hid hd
        clear hd
        go_wp2_with fail
        (refine wp_region_ext (by kernel_rfl) (by kernel_rfl) ?_; intro ι hι g hg; have q_t0 := hg.cell t0; have q_t1 := hg.cell t1; clear t0 t1; (repeat (go_big_quiet_step (fail))); refine wpQuiet_nil ?_; rintro w2 ⟨i2, rfl⟩; have hq := hg.ext i2; generalize g i2 = w2 at hq ⊢; clear q_t0 q_t1 i2 hg g hι ι)
        have hxw : Ext (w.alloc (.cells #[.slice fp A.feats.length fc, .slice lp A.lets.length lc] 25)) w2 := hxq.trans hq
        have hb2 : w.heap.size + 1 ≤ w2.heap.size := Nat.le_trans hb hq.le
        have hT2 := hTq.ext hq
        have lg := hT2.lt
        obtain ⟨t0, t1⟩ := hT2.left
        obtain ⟨_, cy⟩ := (hY.mono hxw.box).cell hk2
        go_wp2_with (at_builtin; go_loud (refine wpList_append_own _ rfl _ _ 29 rfl (w.heap.size + 1) 97 i0 (.agg #[.int .i32 0, .int .i32 0]) 2 8 Tryz.underlying29 hi hz0 hz1 hz2 rfl (by decide) (.slice rp done.length rc) done.length (pairRow done) rfl (ownsRow_ext hown (by repeat (first | assumption | exact Ext.refl _ | refine Ext.alloc ?_ _ | refine Ext.drew ?_ | refine Ext.drewN ?_ _ | refine Ext.setCell ?_ (by first | (simp; done) | (simp; omega) | omega) _ | (refine Ext.trans ?_ (by assumption))))) ⟨w2.heap.size, 0, none⟩ 1 1 [.int .i32 (0), .int .i32 (rn y k)] rfl rfl (two_cells' _ _ _ _) (by simp [Value.oneCell']) (by unfold maxLen; omega) (by omega) (by simp; omega) ?_); intro v' w4 hown4 hgrow _)
        refine ⟨⟨x.length, k + 1, done ++ [(0, rn y k)], by omega, by omega, by go_num, by go_num, Ext.append (by repeat (first | assumption | exact Ext.refl _ | refine Ext.alloc ?_ _ | refine Ext.drew ?_ | refine Ext.drewN ?_ _ | refine Ext.setCell ?_ (by first | (simp; done) | (simp; omega) | omega) _ | (refine Ext.trans ?_ (by assumption)))) (ownsRow_ext hown (by repeat (first | assumption | exact Ext.refl _ | refine Ext.alloc ?_ _ | refine Ext.drew ?_ | refine Ext.drewN ?_ _ | refine Ext.setCell ?_ (by first | (simp; done) | (simp; omega) | omega) _ | (refine Ext.trans ?_ (by assumption))))) hgrow (by rw [size_alloc]; exact Nat.le_refl _), ?_, by simp; omega, ?_⟩, by simp [intOf]; omega⟩
        · rw [List.length_append, pairRow_append]; exact hown4
        · have e : (done ++ [(0, rn y k)]) ++ T (x.length) (k + 1) = F := by rw [List.append_assoc]; exact HD2.out
          exact e
      · have e : k = y.length := by omega
        subst e
        have hd := HD.out
        rw [HFE.out, List.append_nil] at hd
        subst hd
        go_wp2_with fail
        go_ret
        exact ⟨rp, rc, rfl, ⟨ownsRow_base hown (by omega), by omega, HWF.out⟩, hxq.box⟩

end Go.Proofs.YtcnhlogkhnoacaaGreatDoor
