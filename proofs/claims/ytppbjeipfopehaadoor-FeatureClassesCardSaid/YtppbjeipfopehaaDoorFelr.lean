/- Contract of the reference's Class. -/
import Derived.Test.YtppbjeipfopehaaDoorFele
namespace Go.Proofs.YtppbjeipfopehaaDoor
open Go.RowKit Go.Cg Go.Shelf Go.Maps

set_option maxRecDepth 100000 in
set_option maxHeartbeats 1000000 in
theorem Class02_any (fp lp : Option Addr) (fc lc : Nat) (A : Alpha) (p m : Nat) (hp : p < 4294967296) (hm : m < 4294967296) (w : World) (hA : AlphaAt w fp lp A) :
    Calls Tryd.prog 22 #[.agg #[.slice fp A.feats.length fc, .slice lp A.lets.length lc], .int .u32 p, .int .u32 m] w fun e w' => ∃ rp rc, e = .returned (.tuple #[.slice rp (classL A p m).length rc, .int .i64 (classE A p m)]) ∧ OwnRunes 21 w.heap.size w' rp rc (classL A p m) ∧ Ext w w' := by
  have hx3 : Ext w (w.alloc (.cells #[.slice fp A.feats.length fc, .slice lp A.lets.length lc] 26)) := (Ext.refl _).alloc _
  have hfb := hA.fbig
  have hb := hA.lbig
  obtain ⟨i0, hi, hz0, hz1, hz2⟩ := info_parts infoRn
  have hask := asked_any fp lp none fc lc 0 A [] _ (hA.mono hx3) (RunesAt.nil _)
  rw [asked_nil] at hask
  by_cases hok : A.Ok
  · rw [if_pos hok] at hask
    have HASK := Lib.hid hask
    clear hask
    cases hmay : mayB A.feats.length p m
    · have hE : classE A p m = 20 := by unfold classE; rw [if_pos hok, hmay]; rfl
      have hL : classL A p m = [] := by unfold classL; rw [hE]; rfl
      rw [hE, hL]
      go_enter Tryd.func22, Tryd.ntmps22
      go_wp2_with (first | (go_at_call 46; refine HASK.out.mono ?_; rintro e w1 ⟨rfl, hx1⟩; have hs1 := hx1.lt0; have d0 := hx1.cell0 0; have d1 := hx1.cell0 1; simp at d0 d1) | (go_at_call 48; refine (May_any _ _ _ _ _ _ hp hm hfb _).mono ?_; rintro e w2 ⟨rfl, hx2⟩))
      go_ret2
      exact ⟨none, 0, rfl, OwnRunes.nil _ _ _, (hx3.trans hx1).trans hx2⟩
    · have hE : classE A p m = 0 := by unfold classE; rw [if_pos hok, hmay]; rfl
      have hL : classL A p m = classTo A p m A.lets.length := by unfold classL; rw [hE]; rfl
      rw [hE, hL]
      go_enter Tryd.func22, Tryd.ntmps22
      go_wp2_with (first | (go_at_call 46; refine HASK.out.mono ?_; rintro e w1 ⟨rfl, hx1⟩; have hs1 := hx1.lt0; have d0 := hx1.cell0 0; have d1 := hx1.cell0 1; simp at d0 d1) | (go_at_call 48; refine (May_any _ _ _ _ _ _ hp hm hfb _).mono ?_; rintro e w2 ⟨rfl, hx2⟩))
      clear d0 d1 hs1
      go_loopw [9, 10] (fun out i wr => ∃ k : Nat, k ≤ A.lets.length ∧ i = .int .i64 k ∧ Ext (w.alloc (.cells #[.slice fp A.feats.length fc, .slice lp A.lets.length lc] 26)) wr ∧ wr.ownsRow (w.heap.size + 1) 21 1 out (classTo A p m k).length ((classTo A p m k).map (Value.int .i32))) (fun _ i _ => A.lets.length - (intOf i).toNat)
      case atStart => exact ⟨0, Nat.zero_le _, by go_num, hx1.trans hx2, World.ownsRow_nil _ _ _ _⟩
      case round =>
        obtain ⟨k, hk, rfl, hx, hown⟩ := hrel
        have d0 := hx.cell0 0; have d1 := hx.cell0 1; simp at d0 d1
        have hlw := hx.lt0
        by_cases hlt : k < A.lets.length
        · obtain ⟨b, off, rfl, hbw, c0, c1, c2⟩ := (hA.mono hx.box).cells hlt
          obtain ⟨wf1, wf2, wf3, wf4⟩ := hA.wf k hlt
          have hlen := classTo_len A p m k
          cases hlk : likeB (A.at_ k).plus (A.at_ k).minus p m
          · have hst : classTo A p m (k + 1) = classTo A p m k := by rw [classTo, hlk]; rfl
            have HS := Lib.hid hst
            clear hst
            go_wp2_with (go_at_call 49; refine (Like_any _ _ _ _ _ wf3 wf4 hp hm _).mono ?_; rintro e w3 ⟨rfl, hx4⟩)
            refine ⟨⟨k + 1, by omega, by go_num, hx.trans hx4, ?_⟩, by simp [intOf]; omega⟩
            rw [HS.out]; exact ownsRow_ext hown hx4
          · have hst : classTo A p m (k + 1) = classTo A p m k ++ [(A.at_ k).rune] := by rw [classTo, hlk]; rfl
            have HS := Lib.hid hst
            clear hst
            go_wp2_with (first | (go_at_call 49; refine (Like_any _ _ _ _ _ wf3 wf4 hp hm _).mono ?_; rintro e w3 ⟨rfl, hx4⟩; have e0 := (hx.trans hx4).cell0 0; have e1 := (hx.trans hx4).cell0 1; simp at e0 e1; obtain ⟨hbw3, g0, g1, g2⟩ := (hA.mono (hx.trans hx4).box).lcell hlt; have hl3 := (hx.trans hx4).lt0) | (at_builtin; refine wpList_append_own _ rfl _ _ 33 rfl (w.heap.size + 1) 21 i0 (.int .i32 0) 1 4 Tryd.underlying33 hi hz0 hz1 hz2 rfl (by decide) _ _ _ rfl ((ownsRow_ext hown hx4).alloc _) ⟨w3.heap.size, 0, none⟩ 1 1 [.int .i32 (A.at_ k).rune] rfl rfl (one_cell _ _ _) (by simp [Value.oneCell']) (by unfold maxLen; omega) (by omega) (by simp; have := hx.le; have := hx4.le; simp at *; omega) ?_; intro v' w4 hown4 hgrow _))
            refine ⟨⟨k + 1, by omega, by go_num, Ext.append ((hx.trans hx4).alloc _) ((ownsRow_ext hown hx4).alloc _) hgrow (Nat.le_of_eq (size_alloc _ _)), ?_⟩, by simp [intOf]; omega⟩
            rw [HS.out, List.length_append, List.map_append]; exact hown4
        · go_wp2_with fail
          go_ret2
          obtain ⟨rp, rc, rfl⟩ := ownsRow_slice hown
          have e : k = A.lets.length := by omega
          subst e
          exact ⟨rp, rc, rfl, ⟨ownsRow_base hown (by omega), by have := classTo_len A p m A.lets.length; omega, mem_rn (classTo_wf hA.wf p m _ (Nat.le_refl _))⟩, hx.box⟩
  · rw [if_neg hok] at hask
    have hE : classE A p m = 7 := by unfold classE; rw [if_neg hok]
    have hL : classL A p m = [] := by unfold classL; rw [hE]; rfl
    rw [hE, hL]
    go_enter Tryd.func22, Tryd.ntmps22
    go_wp2_with (first | (go_at_call 46; refine hask.mono ?_; rintro e w1 ⟨rfl, hx1⟩))
    go_ret2
    exact ⟨none, 0, rfl, OwnRunes.nil _ _ _, hx3.trans hx1⟩

end Go.Proofs.YtppbjeipfopehaaDoor
