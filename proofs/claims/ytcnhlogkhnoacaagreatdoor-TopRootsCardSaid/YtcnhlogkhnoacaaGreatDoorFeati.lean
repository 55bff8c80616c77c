/- Contracts: feature.Class and its reference. -/
import Derived.Test.YtcnhlogkhnoacaaGreatDoorFeath
import Derived.Test.YtcnhlogkhnoacaaGreatDoorOwnb
namespace Go.Proofs.YtcnhlogkhnoacaaGreatDoor
open Go.RowKit Go.Cg Go.Shelf Go.Maps

theorem infoRn : (Tryz.prog.info? 21).map (fun i => (i.zero, i.size, i.bytes)) = some (some (.int .i32 0), 1, 4) := by kernel_rfl
theorem classTo_wf {A : Alpha} (hw : ∀ i, i < A.lets.length → (A.at_ i).wf) (p m k : Nat) (hk : k ≤ A.lets.length) : ∀ r ∈ classTo A p m k, -2147483648 ≤ r ∧ r ≤ 2147483647 := fun r hr => by
  obtain ⟨i, hi, rfl⟩ := classTo_mem A p m k r hr
  obtain ⟨h1, h2, _⟩ := hw i (by omega)
  exact ⟨h1, h2⟩

set_option maxHeartbeats 1000000 in
theorem class_any (fp lp : Option Addr) (fc lc : Nat) (A : Alpha) (p m : Nat) (hp : p < 4294967296) (hm : m < 4294967296) (w : World) (hA : AlphaAt w fp lp A) :
    Calls Tryz.prog 115 #[.agg #[.slice fp A.feats.length fc, .slice lp A.lets.length lc], .int .u32 p, .int .u32 m] w fun e w' => ∃ rp rc, e = .returned (.tuple #[.slice rp (classL A p m).length rc, .int .i64 (classE A p m)]) ∧ OwnRunes 21 w.heap.size w' rp rc (classL A p m) ∧ Ext w w' := by
  have hx3 : Ext w (w.alloc (.cells #[.slice fp A.feats.length fc, .slice lp A.lets.length lc] 25)) := (Ext.refl _).alloc _
  have hfb := hA.fbig
  have hb := hA.lbig
  obtain ⟨i0, hi, hz0, hz1, hz2⟩ := info_parts infoRn
  by_cases hok : A.Ok
  · have hC := checkN_ok hok
    cases hmay : mayB A.feats.length p m
    · have hE : classE A p m = 20 := by unfold classE; rw [if_pos hok, hmay]; rfl
      have hL : classL A p m = [] := by unfold classL; rw [hE]; rfl
      rw [hE, hL]
      go_enter Tryz.func115, Tryz.ntmps115
      go_wp2_with (first | (go_at_call 33; refine (check_any _ _ _ _ _ _ (hA.mono hx3)).mono ?_; rintro e w1 ⟨rfl, hx1⟩; have hs1 := hx1.lt0; have d0 := hx1.cell0 0; have d1 := hx1.cell0 1; simp at d0 d1) | (go_at_call 65; refine (within_any _ _ _ _ _ _ hp hm hfb _).mono ?_; rintro e w2 ⟨rfl, hx2⟩))
      go_ret2
      exact ⟨none, 0, rfl, OwnRunes.nil _ _ _, (by repeat (first | assumption | exact Ext.refl _ | refine Ext.alloc ?_ _ | refine Ext.drew ?_ | refine Ext.drewN ?_ _ | refine Ext.setCell ?_ (by first | (simp; done) | (simp; omega) | omega) _ | (refine Ext.trans ?_ (by assumption))))⟩
    · have hE : classE A p m = 0 := by unfold classE; rw [if_pos hok, hmay]; rfl
      have hL : classL A p m = classTo A p m A.lets.length := by unfold classL; rw [hE]; rfl
      rw [hE, hL]
      go_enter Tryz.func115, Tryz.ntmps115
      go_wp2_with (first | (go_at_call 33; refine (check_any _ _ _ _ _ _ (hA.mono hx3)).mono ?_; rintro e w1 ⟨rfl, hx1⟩; have hs1 := hx1.lt0; have d0 := hx1.cell0 0; have d1 := hx1.cell0 1; simp at d0 d1) | (go_at_call 65; refine (within_any _ _ _ _ _ _ hp hm hfb _).mono ?_; rintro e w2 ⟨rfl, hx2⟩; have e1 := (hx1.trans hx2).cell0 1; simp at e1))
      clear d0 d1 e1 hs1
      go_loopw [9, 25] (fun out i wr => ∃ k : Nat, k ≤ A.lets.length ∧ i = .int .i64 k ∧ Ext (w.alloc (.cells #[.slice fp A.feats.length fc, .slice lp A.lets.length lc] 25)) wr ∧ wr.ownsRow (w.heap.size + 1) 21 1 out (classTo A p m k).length ((classTo A p m k).map (Value.int .i32))) (fun _ i _ => A.lets.length - (intOf i).toNat)
      case atStart => exact ⟨0, Nat.zero_le _, rfl, hx1.trans hx2, World.ownsRow_nil _ _ _ _⟩
      case round =>
        obtain ⟨k, hk, rfl, hx, hown⟩ := hrel
        by_cases hlt : k < A.lets.length
        · obtain ⟨b, off, rfl, hbw, c0, c1, c2⟩ := (hA.mono hx.box).cells hlt
          obtain ⟨wf1, wf2, wf3, wf4⟩ := hA.wf k hlt
          have hlen := classTo_len A p m k
          cases hlk : likeB (A.at_ k).plus (A.at_ k).minus p m
          · have hst : classTo A p m (k + 1) = classTo A p m k := by rw [classTo, hlk]; rfl
            go_wp2_with (first | (go_at_call 149; refine (like_any _ _ _ _ _ wf3 wf4 hp hm _).mono ?_; rintro e w3 ⟨rfl, hx4⟩))
            refine ⟨⟨k + 1, by omega, by go_num, (hx.alloc _).trans hx4, ?_⟩, by simp [intOf]; omega⟩
            rw [hst]; exact ownsRow_ext (ownsRow_ext hown ((Ext.refl _).alloc _)) hx4
          · have hst : classTo A p m (k + 1) = classTo A p m k ++ [(A.at_ k).rune] := by rw [classTo, hlk]; rfl
            have HS := Lib.hid hst
            clear hst
            go_wp2_with (first | (go_at_call 149; refine (like_any _ _ _ _ _ wf3 wf4 hp hm _).mono ?_; rintro e w3 ⟨rfl, hx4⟩; have e0 := hx4.cell0 0; simp at e0; have l0 := hx4.lt0) | (at_builtin; refine wpList_append_own _ rfl _ _ 36 rfl (w.heap.size + 1) 21 i0 (.int .i32 0) 1 4 Tryz.underlying36 hi hz0 hz1 hz2 rfl (by decide) _ _ _ rfl ((ownsRow_ext (ownsRow_ext hown ((Ext.refl _).alloc _)) hx4).alloc _) ⟨w3.heap.size, 0, none⟩ 1 1 [.int .i32 (A.at_ k).rune] rfl rfl (one_cell _ _ _) (by simp [Value.oneCell']) (by unfold maxLen; omega) (by omega) (by simp; have := hx.le; have := hx4.le; simp at *; omega) ?_; intro v' w4 hown4 hgrow _))
            refine ⟨⟨k + 1, by omega, by go_num, Ext.append (((hx.alloc _).trans hx4).alloc _) ((ownsRow_ext (ownsRow_ext hown ((Ext.refl _).alloc _)) hx4).alloc _) hgrow (Nat.le_of_eq (size_alloc _ _)), ?_⟩, by simp [intOf]; omega⟩
            rw [HS.out, List.length_append, List.map_append]; exact hown4
        · go_wp2_with fail
          go_ret2
          obtain ⟨rp, rc, rfl⟩ := ownsRow_slice hown
          have e : k = A.lets.length := by omega
          subst e
          exact ⟨rp, rc, rfl, ⟨ownsRow_base hown (by omega), by have := classTo_len A p m A.lets.length; omega, mem_rn (classTo_wf hA.wf p m _ (Nat.le_refl _))⟩, hx.box⟩
  · have hC := checkN_bad hok
    have hE : classE A p m = 7 := by unfold classE; rw [if_neg hok]
    have hL : classL A p m = [] := by unfold classL; rw [hE]; rfl
    rw [hE, hL]
    go_enter Tryz.func115, Tryz.ntmps115
    go_wp2_with (first | (go_at_call 33; refine (check_any _ _ _ _ _ _ (hA.mono hx3)).mono ?_; rintro e w1 ⟨rfl, hx1⟩))
    go_ret2
    exact ⟨none, 0, rfl, OwnRunes.nil _ _ _, (by repeat (first | assumption | exact Ext.refl _ | refine Ext.alloc ?_ _ | refine Ext.drew ?_ | refine Ext.drewN ?_ _ | refine Ext.setCell ?_ (by first | (simp; done) | (simp; omega) | omega) _ | (refine Ext.trans ?_ (by assumption))))⟩

end Go.Proofs.YtcnhlogkhnoacaaGreatDoor
