/- Contracts for cognatetop.turns: what the maker does; rule.Apply; turns itself answers true. -/
import Derived.Test.YtcnhlogkhnoacaaGreatDoorTpaa
import Derived.Laws.CopyOwn
import Derived.Test.YtcnhlogkhnoacaaGreatDoorRegx
import Derived.Lib.SliceRun
import Derived.Test.YtcnhlogkhnoacaaGreatDoorDoubz
import Derived.Test.YtcnhlogkhnoacaaGreatDoorShelh
import Derived.Maps.RangeWalk
import Derived.Shelf.Utf8.RuneCount
import Derived.Deep.RegionHeld3
namespace Go.Proofs.YtcnhlogkhnoacaaGreatDoor
open Go.RowKit Go.Cg Go.Shelf Go.Maps

theorem tis_any (g : Nat) (x r : Int) (hr : (r != 0) = true) (w : World) :
    Calls Tryz.prog 164 #[.pointer (some ⟨g, 0, none⟩), .int .i32 x, .int .i32 r, .int .u32 0, .int .u32 0] w fun e w' => e = .returned (.bool (x == r)) ∧ Ext w w' := by
  go_enter Tryz.func164, Tryz.ntmps164
  go_wp2_with fail
  go_ret
  exact ⟨rfl, Ext.refl _⟩

theorem mkb4 (W : World) : (Instr.makeSlice 213 (.int .i64 4) (.int .i64 4)).run Tryz.prog W = .ok (.slice (some ⟨W.heap.size, 0, none⟩) 4 4) (W.alloc (.cells #[.bool false, .bool false, .bool false, .bool false] 4 (0, 0))) := by kernel_rfl

set_option maxRecDepth 100000 in
set_option maxHeartbeats 4000000 in
theorem tends1_any (b sp sl sm sw : Nat) (lp : Option Addr) (F c lc : Nat) (x0 x1 x2 x3 : Bool) (w : World) (hN : NodeAt w b) (hp : w.cell? ⟨sp, 0, none⟩ = some (.slice (some ⟨b, 0, none⟩) 1 1)) (hl : w.cell? ⟨sl, 0, none⟩ = some (.slice lp 3 lc)) (hlt : sl < w.heap.size)
    (hF : Row w F 4 [.bool x0, .bool x1, .bool x2, .bool x3]) :
    Calls Tryz.prog 180 #[.int .i64 0, .slice (some ⟨F, 0, none⟩) 4 c, .pointer (some ⟨sp, 0, none⟩), .pointer (some ⟨sl, 0, none⟩), .pointer (some ⟨sm, 0, none⟩), .pointer (some ⟨sw, 0, none⟩)] w fun e w' =>
      ∃ B, e = .returned (.slice (some ⟨B, 0, none⟩) 4 4) ∧ Row w' B 4 [.bool x0, .bool x1, .bool x2, .bool x3] ∧ w.heap.size ≤ B ∧ Ext w w' := by
  have hmk := mkb4
  obtain ⟨W1, hW1⟩ : ∃ W, w.alloc (.cells #[.int .u8 1, .int .i32 0, .int .u32 0, .int .u32 0, .slice none 0 0] 134) = W := ⟨_, rfl⟩
  have hx1 : Ext w W1 := by rw [← hW1]; exact (Ext.refl _).alloc _
  have hz1 : W1.heap.size = w.heap.size + 1 := by rw [← hW1, size_alloc]
  obtain ⟨W2, hW2⟩ : ∃ W, W1.alloc (.cells #[.bool false, .bool false, .bool false, .bool false] 4) = W := ⟨_, rfl⟩
  have hx2 : Ext W1 W2 := by rw [← hW2]; exact (Ext.refl _).alloc _
  have hb2 : W2.heap[w.heap.size + 1]? = some (.cells #[.bool false, .bool false, .bool false, .bool false] 4 (0, 0)) := by rw [← hW2, ← hz1]; exact heap_alloc_new _ _
  have hsrc : ∀ j v, [Value.bool x0, .bool x1, .bool x2, .bool x3][j]? = some v → W2.cell? ((⟨F, 0, none⟩ : Addr).add j) = some v := fun j v h => by rw [show (⟨F, 0, none⟩ : Addr).add j = ⟨F, j, none⟩ from by simp [Addr.add]; intro h; omega, (hF.ext (hx1.trans hx2)).cell]; exact h
  have hrow : Row (W2.setRow (w.heap.size + 1) #[.bool x0, .bool x1, .bool x2, .bool x3]) (w.heap.size + 1) 4 [.bool x0, .bool x1, .bool x2, .bool x3] := setRow_heap _ _ _ _ _ _ hb2
  have hex : Ext w (W2.setRow (w.heap.size + 1) #[.bool x0, .bool x1, .bool x2, .bool x3]) := below_setRow (hx1.trans hx2) (by omega) _
  obtain ⟨n0, c0, c1, c2, c3, c4⟩ := hN
  have hcp0 := run_copy_row (P := Tryz.prog) W2 213 213 3 4 (w.heap.size + 1) 0 4 4 ⟨F, 0, none⟩ 4 c _ _ [.bool x0, .bool x1, .bool x2, .bool x3] Tryz.underlying213 (by kernel_rfl) hb2 rfl hsrc (by simp) (by simp [Value.oneCell'])
  have HCP := Lib.hid hcp0
  clear hcp0
  have HW1 := Lib.hid hW1
  have HW2 := Lib.hid hW2
  have HRW := Lib.hid hrow
  have HEX := Lib.hid hex
  clear hW1 hx1 hx2 hW2 hrow hex hsrc hb2 hF hz1
  go_enter Tryz.func180, Tryz.ntmps180
  go_wp2_with fail
  rw [HW1.out, HW2.out]
  rw [HCP.out]
  go_wp2_with fail
  go_ret
  exact ⟨w.heap.size + 1, rfl, HRW.out, Nat.le_succ _, HEX.out⟩
end Go.Proofs.YtcnhlogkhnoacaaGreatDoor

namespace Go.Cg
open Go.RowKit Go.Lib
theorem Row.setCells {T B : Nat} : ∀ (vs : List Value) (o : Nat) (l : List Value) (w : World), Row w B T l → ∃ l', Row (w.setCells B o vs) B T l' ∧ l' = (vs.zipIdx o).foldl (fun l p => l.set p.2 p.1) l
  | [], _, l, _, h => ⟨l, h, rfl⟩
  | v :: vs, o, l, w, h => by
    obtain ⟨l', h1, h2⟩ := Row.setCells vs (o + 1) (l.set o v) _ (h.set o v)
    exact ⟨l', h1, h2⟩
end Go.Cg
namespace Go.Proofs.YtcnhlogkhnoacaaGreatDoor
open Go.RowKit Go.Cg Go.Shelf Go.Maps

set_option maxRecDepth 100000 in
set_option maxHeartbeats 4000000 in
theorem tends_any (b g : Nat) (lp : Option Addr) (F c lc : Nat) (x0 x1 x2 x3 : Bool) (w : World) (hN : NodeAt w b) (hF : Row w F 4 [.bool x0, .bool x1, .bool x2, .bool x3]) :
    Calls Tryz.prog 165 #[.pointer (some ⟨g, 0, none⟩), .agg #[.slice (some ⟨b, 0, none⟩) 1 1], .slice lp 3 lc, .slice (some ⟨F, 0, none⟩) 4 c] w fun e w' =>
      ∃ B, e = .returned (.slice (some ⟨B, 0, none⟩) 4 4) ∧ Row w' B 4 [.bool x0, .bool x1, .bool x2, .bool x3] ∧ w.heap.size ≤ B ∧ Ext w w' := by
  have eg : ∀ args W, (callFunc 180 args).run Tryz.prog W = .ok (.enter 180 args) W := @enters_of Tryz.prog 180 _ _ Tryz.func180 (by kernel_rfl) rfl
  obtain ⟨s, hs⟩ : ∃ s, w.heap.size = s := ⟨_, rfl⟩
  obtain ⟨W1, hW1⟩ : ∃ W, w.alloc (.cells #[.pointer (some ⟨g, 0, none⟩)] 166) = W := ⟨_, rfl⟩
  obtain ⟨W2, hW2⟩ : ∃ W, W1.alloc (.cells #[.slice (some ⟨b, 0, none⟩) 1 1] 80) = W := ⟨_, rfl⟩
  obtain ⟨W3, hW3⟩ : ∃ W, W2.alloc (.cells #[.slice lp 3 lc] 36) = W := ⟨_, rfl⟩
  have hz1 : W1.heap.size = s + 1 := by rw [← hW1, size_alloc, hs]
  have hz2 : W2.heap.size = s + 1 + 1 := by rw [← hW2, size_alloc, hz1]
  have hz3 : W3.heap.size = s + 1 + 1 + 1 := by rw [← hW3, size_alloc, hz2]
  have hx1 : Ext w W1 := by rw [← hW1]; exact (Ext.refl _).alloc _
  have hx2 : Ext W1 W2 := by rw [← hW2]; exact (Ext.refl _).alloc _
  have hx3 : Ext W2 W3 := by rw [← hW3]; exact (Ext.refl _).alloc _
  have HX := Lib.hid (fun W (hW : Ext W3 W) => (hx1.trans (hx2.trans hx3)).trans hW)
  have HE := Lib.hid (fun W (hW : Ext W3 W) => tends1_any b (s + 1) (s + 1 + 1) s (s + 1 + 1 + 1) lp F c lc x0 x1 x2 x3 W (hN.ext ((hx1.trans (hx2.trans hx3)).trans hW))
    ((ext_cells hz1 (W := W) (by rw [hW2]; exact hx3.trans hW : Ext (W1.alloc (.cells #[.slice (some ⟨b, 0, none⟩) 1 1] 80)) W)).1 0)
    ((ext_cells hz2 (W := W) (by rw [hW3]; exact hW : Ext (W2.alloc (.cells #[.slice lp 3 lc] 36)) W)).1 0)
    (by have := hW.le; omega) (hF.ext ((hx1.trans (hx2.trans hx3)).trans hW)))
  have HW1 := Lib.hid hW1
  have HW2 := Lib.hid hW2
  have HW3 := Lib.hid hW3
  clear hW1 hW2 hW3 hx1 hx2 hx3 hz1 hz2 hN hF
  go_enter Tryz.func165, Tryz.ntmps165
  go_wp2_with fail
  rw [HW1.out, HW2.out, HW3.out]
  refine (HE.out _ ((Ext.refl _).alloc _)).mono ?_
  rintro e w5 ⟨B, rfl, hB, hl, hx⟩
  have hx5 := HX.out _ (((Ext.refl W3).alloc _).trans hx)
  have hl5 := Nat.le_trans (HX.out _ ((Ext.refl W3).alloc _)).le hl
  clear hx hl
  go_wp2_with fail
  go_ret
  exact ⟨B, rfl, hB, by omega, hx5⟩

theorem tlies_big (g : Nat) (lp : Option Addr) (lc t i l r : Nat) (w : World) (hM : MakerAt w g t i l r) :
    Calls Tryz.prog 133 #[.pointer (some ⟨g, 0, none⟩), .slice lp 3 lc, .int .i64 3] w fun e w' => e = .returned (.bool false) ∧ Ext w w' := by
  obtain ⟨g0, g1, g2, g3, g4⟩ := hM
  go_enter Tryz.func133, Tryz.ntmps133
  go_wp2_with fail
  go_ret
  exact ⟨rfl, Ext.refl _⟩

set_option maxRecDepth 100000 in
set_option maxHeartbeats 4000000 in
theorem tlies_no (k : Nat) (hk : k = 0 ∨ k = 2) (g : Nat) (b lc t i l r : Nat) (w : World) (hM : MakerAt w g t i l r) (hR : TR w t i l r) (hb : b < w.heap.size) (hc : w.cell? ⟨b, k, none⟩ = some (.int .i32 97)) :
    Calls Tryz.prog 133 #[.pointer (some ⟨g, 0, none⟩), .slice (some ⟨b, 0, none⟩) 3 lc, .int .i64 k] w fun e w' => e = .returned (.bool false) ∧ Ext w w' := by
  have HIS := Lib.hid (fun W => tis_any g 97 98 rfl W)
  obtain ⟨g0, g1, g2, g3, g4⟩ := hM
  obtain ⟨tl, t0, t1, t2, _, _, _, _, _, _, _⟩ := hR
  rcases hk with rfl | rfl
  all_goals
    go_enter Tryz.func133, Tryz.ntmps133
    go_wp2_with fail
    go_loopw [30] (fun i wr => ∃ k : Nat, k < 1 ∧ i = .int .i64 k ∧ Ext w wr ∧ wr = w) (fun i _ => 1 - (intOf i).toNat)
    case atStart => exact ⟨0, by decide, rfl, Ext.refl _, rfl⟩
    case round =>
      obtain ⟨k, hk, rfl, hx, rfl⟩ := hrel
      obtain rfl : k = 0 := by omega
      obtain ⟨W1, hW1⟩ : ∃ W, wr.alloc (.cells #[.int .i32 98, .int .u32 0, .int .u32 0] 73) = W := ⟨_, rfl⟩
      have hx1 : Ext wr W1 := by rw [← hW1]; exact (Ext.refl _).alloc _
      obtain ⟨h1, hl1⟩ := ext_cells rfl (W := W1) (by rw [hW1]; exact Ext.refl _ : Ext (wr.alloc (.cells #[.int .i32 98, .int .u32 0, .int .u32 0] 73)) W1)
      have d0 : W1.cell? ⟨wr.heap.size, 0, none⟩ = some (.int .i32 98) := h1 0
      have d1 : W1.cell? ⟨wr.heap.size, 1, none⟩ = some (.int .u32 0) := h1 1
      have d2 : W1.cell? ⟨wr.heap.size, 2, none⟩ = some (.int .u32 0) := h1 2
      have c0 := (Below.cell hx1 (p := ⟨b, _, none⟩) hb).trans hc
      have HW1 := Lib.hid hW1
      have HX1 := Lib.hid hx1
      clear hW1 hx1 h1 hx
      go_wp2_with fail
      rw [HW1.out]
      clear HW1
      (refine wp_region_ext (by kernel_rfl) (by kernel_rfl) ?_; intro ι hι g hg; have q_d0 := hg.cell d0; have q_d1 := hg.cell d1; have q_d2 := hg.cell d2; have q_c0 := hg.cell c0; clear d0 d1 d2 c0; (repeat (go_big_quiet_step ((go_at_call 164; exact hg.call (HIS.out _))))); refine wpQuiet_nil ?_; rintro w2 ⟨i2, rfl⟩; have hq := hg.ext i2; generalize g i2 = w2 at hq ⊢; clear q_d0 q_d1 q_d2 q_c0 i2 hg g hι ι)
      have h2 := HX1.out.trans hq
      clear hq
      go_wp2_with fail
      go_ret
      exact ⟨rfl, h2⟩

def bl (k : Nat) : List Value := [.bool (decide (0 < k)), .bool (decide (1 < k)), .bool (decide (2 < k)), .bool (decide (3 < k))]
theorem bl_set (k : Nat) (h : k < 4) : (bl k).set k (.bool true) = bl (k + 1) := by
  have h4 : k = 0 ∨ k = 1 ∨ k = 2 ∨ k = 3 := by omega
  rcases h4 with rfl | rfl | rfl | rfl <;> rfl
theorem bl_some (k : Nat) (h : k < 4) : ((bl 4)[k]?).isSome = true := by
  have h4 : k = 0 ∨ k = 1 ∨ k = 2 ∨ k = 3 := by omega
  rcases h4 with rfl | rfl | rfl | rfl <;> rfl
theorem bl_at (k : Nat) (h : k < 4) : ∃ v, (bl k)[k]? = some v := by
  have h4 : k = 0 ∨ k = 1 ∨ k = 2 ∨ k = 3 := by omega
  rcases h4 with rfl | rfl | rfl | rfl <;> exact ⟨_, rfl⟩

set_option maxRecDepth 100000 in
set_option maxHeartbeats 4000000 in
theorem tlies_yes (g : Nat) (b lc t i l r : Nat) (w : World) (hM : MakerAt w g t i l r) (hR : TR w t i l r) (hb : b < w.heap.size) (hc : w.cell? ⟨b, 1, none⟩ = some (.int .i32 98)) :
    Calls Tryz.prog 133 #[.pointer (some ⟨g, 0, none⟩), .slice (some ⟨b, 0, none⟩) 3 lc, .int .i64 1] w fun e w' => e = .returned (.bool true) ∧ Ext w w' := by
  have hmk := mkb4
  have HIS := Lib.hid (fun W => tis_any g 98 98 rfl W)
  have HM := Lib.hid (fun W (hW : Ext w W) => hM.ext hW)
  have HR := Lib.hid (fun W (hW : Ext w W) => hR.ext hW)
  have HC := Lib.hid (fun W (hW : Ext w W) => (Below.cell hW (p := ⟨b, 1, none⟩) hb).trans hc)
  obtain ⟨g0, g1, g2, g3, g4⟩ := hM
  clear hR hc hb
  go_enter Tryz.func133, Tryz.ntmps133
  go_wp2_with fail
  clear g0 g1 g2 g3 g4
  go_loopw [30] (fun i wr => ∃ k : Nat, k ≤ 1 ∧ i = .int .i64 k ∧ Ext w wr) (fun i _ => 1 - (intOf i).toNat)
  case atStart => exact ⟨0, by decide, rfl, Ext.refl _⟩
  case round =>
    obtain ⟨k, hk, rfl, hx⟩ := hrel
    by_cases hlt : k < 1
    · obtain rfl : k = 0 := by omega
      obtain ⟨tl, t0, t1, t2, _, _, _, _, _, _, _⟩ := HR.out _ hx
      generalize wr = wo at *
      obtain ⟨W1, hW1⟩ : ∃ W, wo.alloc (.cells #[.int .i32 98, .int .u32 0, .int .u32 0] 73) = W := ⟨_, rfl⟩
      have hx1 : Ext wo W1 := by rw [← hW1]; exact (Ext.refl _).alloc _
      obtain ⟨h1, hl1⟩ := ext_cells rfl (W := W1) (by rw [hW1]; exact Ext.refl _ : Ext (wo.alloc (.cells #[.int .i32 98, .int .u32 0, .int .u32 0] 73)) W1)
      have d0 : W1.cell? ⟨wo.heap.size, 0, none⟩ = some (.int .i32 98) := h1 0
      have d1 : W1.cell? ⟨wo.heap.size, 1, none⟩ = some (.int .u32 0) := h1 1
      have d2 : W1.cell? ⟨wo.heap.size, 2, none⟩ = some (.int .u32 0) := h1 2
      have c0 := HC.out _ (hx.trans hx1)
      have HW1 := Lib.hid hW1
      have HX1 := Lib.hid (hx.trans hx1)
      clear hW1 hx1 h1 hx
      go_wp2_with fail
      rw [HW1.out]
      clear HW1
      (refine wp_region_ext (by kernel_rfl) (by kernel_rfl) ?_; intro ι hι g hg; have q_d0 := hg.cell d0; have q_d1 := hg.cell d1; have q_d2 := hg.cell d2; have q_c0 := hg.cell c0; clear d0 d1 d2 c0; (repeat (go_big_quiet_step ((go_at_call 164; exact hg.call (HIS.out _))))); refine wpQuiet_nil ?_; rintro w2 ⟨i2, rfl⟩; have hq := hg.ext i2; generalize g i2 = w2 at hq ⊢; clear q_d0 q_d1 q_d2 q_c0 i2 hg g hι ι)
      have h2 := HX1.out.trans hq
      clear hq
      go_wp2_with fail
      exact ⟨⟨1, by decide, by go_num, h2⟩, by simp [intOf]⟩
    · obtain rfl : k = 1 := by omega
      generalize wr = wo at *
      obtain ⟨F, hF⟩ : ∃ F, wo.heap.size = F := ⟨_, rfl⟩
      obtain ⟨W2, hW2⟩ : ∃ W, wo.alloc (.cells #[.bool false, .bool false, .bool false, .bool false] 4) = W := ⟨_, rfl⟩
      have hx2 : Ext wo W2 := by rw [← hW2]; exact (Ext.refl _).alloc _
      have hr2 : Row W2 F 4 (bl 0) := by rw [← hW2, ← hF]; exact heap_alloc_new _ _
      have HW2 := Lib.hid hW2
      have HX := Lib.hid hx
      have HX2 := Lib.hid hx2
      have HR2 := Lib.hid hr2
      have HF := Lib.hid hF
      clear hW2 hx hx2 hr2
      go_wp2_with fail
      rw [HW2.out]
      clear HW2 hF
      go_loopw [57] (fun i wr => ∃ k : Nat, k ≤ 4 ∧ i = .int .i64 k ∧ Ext wo wr ∧ Row wr F 4 (bl k)) (fun i _ => 4 - (intOf i).toNat)
      case atStart => exact ⟨0, by decide, rfl, HX2.out, HR2.out⟩
      case round =>
        obtain ⟨k, hk, rfl, hx, hrow⟩ := hrel
        by_cases hlt : k < 4
        · obtain ⟨v, hv⟩ := bl_at k hlt
          have f0 := (hrow.cell k).trans hv
          have f1 := hrow.froz k
          have f2 := hrow.lt
          have hnx := hrow.set k (.bool true)
          rw [bl_set k hlt] at hnx
          have HN := Lib.hid hnx
          have HX5 := Lib.hid (hx.setCell (p := ⟨F, k, none⟩) (by show wo.heap.size ≤ F; rw [HF.out]; exact Nat.le_refl _) (.bool true))
          clear hnx hx hrow
          go_wp2_with fail
          exact ⟨⟨k + 1, by omega, by go_num, HX5.out, HN.out⟩, by simp [intOf]; omega⟩
        · obtain rfl : k = 4 := by omega
          generalize wr = wp at *
          have hxp := HX.out.trans hx
          have HE1 := Lib.hid (tends_any l g (some ⟨b, 0, none⟩) F 4 lc true true true true wp (HR.out _ hxp).nl hrow)
          obtain ⟨g0, g1, g2, g3, g4⟩ := HM.out _ hxp
          have HXP := Lib.hid hx
          have HROW := Lib.hid hrow
          clear hx hrow hxp
          go_wp2_with fail
          refine HE1.out.mono ?_
          rintro e w5 ⟨B, rfl, hB, hBl, hx5⟩
          have b1 := hB.cell 1
          have bl1 := hB.lt
          simp only [List.getElem?_cons_succ, List.getElem?_cons_zero] at b1
          have hrow5 := HROW.out.ext hx5
          have HX5 := Lib.hid (HXP.out.trans hx5)
          have hclr : ∀ ty, (Builtin.clear_ #[213] ty #[.slice (some ⟨F, 0, none⟩) 4 4]).run Tryz.prog w5 = .ok (.tuple #[]) (w5.setCells F 0 (List.replicate 4 (.bool false))) := fun ty => by
            refine Lib.run_clear_slice (P := Tryz.prog) w5 213 4 ty (.bool false) Tryz.underlying213 (zero_bool zBool) rfl rfl F 0 4 4 (by decide) ?_ ?_
            · intro j hj
              rw [Nat.zero_add, hrow5.cell]; exact bl_some j hj
            · intro j _
              rw [Nat.zero_add]; exact hrow5.froz j
          have HCLR := Lib.hid hclr
          obtain ⟨l6, hrow6, hl6⟩ := Row.setCells (List.replicate 4 (.bool false)) 0 _ _ hrow5
          have hl7 : l6 = [.bool false, .bool false, .bool false, .bool false] := hl6
          rw [hl7] at hrow6
          have hFl : wo.heap.size ≤ F := by rw [HF.out]; exact Nat.le_refl _
          have hx6 : Ext wo (w5.setCells F 0 (List.replicate 4 (.bool false))) := (((HX5.out.setCell (p := ⟨F, 0, none⟩) hFl (.bool false)).setCell (p := ⟨F, 1, none⟩) hFl (.bool false)).setCell (p := ⟨F, 2, none⟩) hFl (.bool false)).setCell (p := ⟨F, 3, none⟩) hFl (.bool false)
          obtain ⟨W6, hW6⟩ : ∃ W, w5.setCells F 0 (List.replicate 4 (.bool false)) = W := ⟨_, rfl⟩
          rw [hW6] at hrow6 hx6
          have HW6 := Lib.hid hW6
          have HX6 := Lib.hid hx6
          have HR6 := Lib.hid hrow6
          clear hW6 hl6 hl7 hclr hrow5 hx5 hB hrow6 hx6 g0 g1 g2 g3 g4
          go_wp2_with fail
          rw [HCLR.out, HW6.out]
          have f0 := HR6.out.cell 2
          have f1 := HR6.out.froz 2
          have f2 := HR6.out.lt
          simp only [List.getElem?_cons_succ, List.getElem?_cons_zero] at f0
          obtain ⟨W7, hW7⟩ : ∃ W, W6.setCell ⟨F, 2, none⟩ (.bool true) = W := ⟨_, rfl⟩
          have hr7 : Row W7 F 4 [.bool false, .bool false, .bool true, .bool false] := by rw [← hW7]; exact HR6.out.set 2 _
          have hx7 : Ext wo W7 := by rw [← hW7]; exact HX6.out.setCell (p := ⟨F, 2, none⟩) hFl _
          have HE2 := Lib.hid (tends_any r g (some ⟨b, 0, none⟩) F 4 lc false false true false W7 (HR.out _ (HX.out.trans hx7)).nr hr7)
          have HX7 := Lib.hid hx7
          have HW7 := Lib.hid hW7
          have hg2 : g < W6.heap.size := Nat.lt_of_lt_of_le (HM.out _ HX.out).lt HX6.out.le
          have g4 : W6.cell? ⟨g, 4, none⟩ = some (.slice (some ⟨r, 0, none⟩) 1 1) := (HM.out _ (HX.out.trans HX6.out)).g4
          have hgF : g ≠ F := by have := (HM.out _ HX.out).lt; have := HF.out; omega
          clear hW7 hr7 hx7 HCLR HW6
          go_wp2_with fail
          rw [HW7.out]
          refine HE2.out.mono ?_
          rintro e w8 ⟨B2, rfl, hB2, _, hx8⟩
          have hx9 := HX.out.trans (HX7.out.trans hx8)
          have HC2 := Lib.hid (tcontains_any (some ⟨B2, 0, none⟩) 4 [false, false, true, false] true (by decide) w8 (hB2.reads (fun j => .bool ([false, false, true, false].getD j false)) (fun j hj => by
            have h4 : j = 0 ∨ j = 1 ∨ j = 2 ∨ j = 3 := by simp at hj; omega
            rcases h4 with rfl | rfl | rfl | rfl <;> rfl)))
          have HX9 := Lib.hid hx9
          clear hx8 hx9 hB2 HW7 f0 f1 f2
          go_wp2_with fail
          refine HC2.out.mono ?_
          rintro e w9 ⟨rfl, hx⟩
          have h9 := HX9.out.trans hx
          rw [show [false, false, true, false].contains true = true from rfl]
          clear hx
          go_wp2_with fail
          go_ret
          exact ⟨rfl, h9⟩
end Go.Proofs.YtcnhlogkhnoacaaGreatDoor

namespace Go.Proofs.YtcnhlogkhnoacaaGreatDoor
open Go.RowKit Go.Cg Go.Shelf Go.Maps

/-- block b holds the word's letters -/
structure LAt (w : World) (b : Nat) : Prop where
  lt : b < w.heap.size
  c0 : w.cell? ⟨b, 0, none⟩ = some (.int .i32 97)
  c1 : w.cell? ⟨b, 1, none⟩ = some (.int .i32 98)
  c2 : w.cell? ⟨b, 2, none⟩ = some (.int .i32 97)
theorem LAt.ext {w w' : World} {b : Nat} (h : LAt w b) (hx : Ext w w') : LAt w' b :=
  ⟨Nat.lt_of_lt_of_le h.lt hx.le, (Below.cell hx (p := ⟨b, 0, none⟩) h.lt).trans h.c0, (Below.cell hx (p := ⟨b, 1, none⟩) h.lt).trans h.c1, (Below.cell hx (p := ⟨b, 2, none⟩) h.lt).trans h.c2⟩
theorem LAt.of_own {w : World} {B T : Nat} {rp : Option Addr} {rc : Nat} (h : OwnRunes T B w rp rc [97, 98, 97]) : ∃ b, rp = some ⟨b, 0, none⟩ ∧ LAt w b := by
  obtain ⟨⟨_, h⟩, _, _⟩ := h
  rcases h with ⟨h, h0⟩ | ⟨b, cap, cur, h, _, hb, _, _, hs, ht⟩
  · simp at h0
  · simp only [Value.slice.injEq] at h
    have hc : ∀ j, j < 3 → cur[j]? = [Value.int .i32 97, .int .i32 98, .int .i32 97][j]? := fun j hj => by
      have : (cur.toList.take 3)[j]? = [Value.int .i32 97, .int .i32 98, .int .i32 97][j]? := by rw [show cur.toList.take 3 = _ from ht]; rfl
      rw [List.getElem?_take_of_lt hj] at this
      simpa using this
    exact ⟨b, h.1, (Array.getElem?_eq_some_iff.1 hb).1, by simp [World.cell?, hb]; exact hc 0 (by decide), by simp [World.cell?, hb]; exact hc 1 (by decide), by simp [World.cell?, hb]; exact hc 2 (by decide)⟩

theorem tlies_any (k : Nat) (hk : k < 4) (g : Nat) (b lc t i l r : Nat) (w : World) (hM : MakerAt w g t i l r) (hR : TR w t i l r) (hL : LAt w b) :
    Calls Tryz.prog 133 #[.pointer (some ⟨g, 0, none⟩), .slice (some ⟨b, 0, none⟩) 3 lc, .int .i64 k] w fun e w' => e = .returned (.bool (decide (k = 1))) ∧ Ext w w' := by
  have h4 : k = 0 ∨ k = 1 ∨ k = 2 ∨ k = 3 := by omega
  rcases h4 with rfl | rfl | rfl | rfl
  · exact tlies_no 0 (.inl rfl) g b lc t i l r w hM hR hL.lt hL.c0
  · exact tlies_yes g b lc t i l r w hM hR hL.lt hL.c1
  · exact tlies_no 2 (.inr rfl) g b lc t i l r w hM hR hL.lt hL.c2
  · exact tlies_big g (some ⟨b, 0, none⟩) lc t i l r w hM

/-- the places at which the rule is done, of those ahead of k -/
def tk (k : Nat) : List Value := [.bool false, .bool (decide (1 < k)), .bool false, .bool false]
theorem tk_no (k : Nat) (h : k ≠ 1) : tk (k + 1) = tk k := by
  unfold tk
  rw [show decide (1 < k + 1) = decide (1 < k) from by rw [decide_eq_decide]; omega]
theorem tk_yes : (tk 1).set 1 (.bool true) = tk 2 := rfl
theorem tk_at (k j : Nat) (h : j < 4) : ∃ v, (tk k)[j]? = some v := by
  have h4 : j = 0 ∨ j = 1 ∨ j = 2 ∨ j = 3 := by omega
  rcases h4 with rfl | rfl | rfl | rfl <;> exact ⟨_, rfl⟩

set_option maxRecDepth 100000 in
set_option maxHeartbeats 4000000 in
theorem tall_any (g : Nat) (b lc t i l r : Nat) (w : World) (hM : MakerAt w g t i l r) (hR : TR w t i l r) (hL : LAt w b) :
    Calls Tryz.prog 96 #[.pointer (some ⟨g, 0, none⟩), .slice (some ⟨b, 0, none⟩) 3 lc] w fun e w' => ∃ V F, e = .returned (.func (.func 134) #[] #[.pointer (some ⟨V, 0, none⟩)]) ∧ Row w' V 213 [.slice (some ⟨F, 0, none⟩) 4 4] ∧ Row w' F 4 (tk 4) ∧ Ext w w' := by
  have hmk := mkb4
  have HLI := Lib.hid (fun k (hk : k < 4) W (hW : Ext w W) => tlies_any k hk g b lc t i l r W (hM.ext hW) (hR.ext hW) (hL.ext hW))
  have HM := Lib.hid (fun W (hW : Ext w W) => hM.ext hW)
  obtain ⟨s, hs⟩ : ∃ s, w.heap.size = s := ⟨_, rfl⟩
  obtain ⟨W1, hW1⟩ : ∃ W, w.alloc (.cells #[.bool false, .bool false, .bool false, .bool false] 4) = W := ⟨_, rfl⟩
  obtain ⟨W2, hW2⟩ : ∃ W, W1.alloc (.cells #[.slice (some ⟨s, 0, none⟩) 4 4] 213) = W := ⟨_, rfl⟩
  have hz1 : W1.heap.size = s + 1 := by rw [← hW1, size_alloc, hs]
  have hx1 : Ext w W1 := by rw [← hW1]; exact (Ext.refl _).alloc _
  have hx2 : Ext W1 W2 := by rw [← hW2]; exact (Ext.refl _).alloc _
  have hr1 : Row W1 s 4 (tk 0) := by rw [← hW1, ← hs]; exact heap_alloc_new _ _
  have hr2 : Row W2 (s + 1) 213 [.slice (some ⟨s, 0, none⟩) 4 4] := by rw [← hW2, ← hz1]; exact heap_alloc_new _ _
  have HR1 := Lib.hid (hr1.ext hx2)
  have HR2 := Lib.hid hr2
  have HX := Lib.hid (hx1.trans hx2)
  have HW1 := Lib.hid hW1
  have HW2 := Lib.hid hW2
  clear hW1 hW2 hx1 hx2 hr1 hr2 hM hR hL hz1
  go_enter Tryz.func96, Tryz.ntmps96
  go_wp2_with fail
  rw [HW1.out, HW2.out]
  clear HW1 HW2
  go_loopw [6] (fun i wr => ∃ k : Nat, k ≤ 4 ∧ i = .int .i64 k ∧ Ext w wr ∧ Row wr s 4 (tk k) ∧ Row wr (s + 1) 213 [.slice (some ⟨s, 0, none⟩) 4 4]) (fun i _ => 4 - (intOf i).toNat)
  case atStart => exact ⟨0, by decide, rfl, HX.out, HR1.out, HR2.out⟩
  case round =>
    obtain ⟨k, hk, rfl, hx, hrow, hbox⟩ := hrel
    by_cases hlt : k < 4
    · have HC := Lib.hid (HLI.out k hlt _ hx)
      have HXX := Lib.hid hx
      have HRW := Lib.hid hrow
      have HBX := Lib.hid hbox
      clear hx hrow hbox
      generalize wr = wo at *
      go_wp2_with fail
      refine HC.out.mono ?_
      rintro e w3 ⟨rfl, hx3⟩
      have HX3 := Lib.hid (HXX.out.trans hx3)
      have HRW3 := Lib.hid (HRW.out.ext hx3)
      have HBX3 := Lib.hid (HBX.out.ext hx3)
      clear hx3 HC HRW HBX HXX
      by_cases h1 : k = 1
      · subst h1
        rw [show decide (1 = 1) = true from rfl]
        have v0 := HBX3.out.cell 0
        have vl := HBX3.out.lt
        have f0 : w3.cell? ⟨s, 1, none⟩ = some (.bool false) := HRW3.out.cell 1
        have f1 := HRW3.out.froz 1
        have f2 := HRW3.out.lt
        simp only [List.getElem?_cons_zero] at v0
        obtain ⟨W4, hW4⟩ : ∃ W, w3.setCell ⟨s, 1, none⟩ (.bool true) = W := ⟨_, rfl⟩
        have hx4 : Ext w W4 := by rw [← hW4]; exact HX3.out.setCell (p := ⟨s, 1, none⟩) (by show w.heap.size ≤ s; omega) _
        have hr4 : Row W4 s 4 (tk 2) := by rw [← hW4]; exact HRW3.out.set 1 _
        have hb4 : Row W4 (s + 1) 213 [.slice (some ⟨s, 0, none⟩) 4 4] := by rw [← hW4]; exact HBX3.out.set_ne (by show s + 1 ≠ s; omega) _
        have HX4 := Lib.hid hx4
        have HR4 := Lib.hid hr4
        have HB4 := Lib.hid hb4
        obtain ⟨g0, g1, g2, g3, g4⟩ := HM.out _ HX3.out
        have hgs : g ≠ s := by have := (HM.out _ (Ext.refl _)).lt; omega
        have HW4 := Lib.hid hW4
        clear hW4 hx4 hr4 hb4
        go_wp2_with fail
        rw [HW4.out]
        exact ⟨⟨2, by decide, by go_num, HX4.out, HR4.out, HB4.out⟩, by simp [intOf]⟩
      · rw [show decide (k = 1) = false from decide_eq_false h1]
        have HN := Lib.hid (tk_no k h1)
        go_wp2_with fail
        exact ⟨⟨k + 1, by omega, by go_num, HX3.out, by rw [HN.out]; exact HRW3.out, HBX3.out⟩, by simp [intOf]; omega⟩
    · obtain rfl : k = 4 := by omega
      have HXX := Lib.hid hx
      have HRW := Lib.hid hrow
      have HBX := Lib.hid hbox
      clear hx hrow hbox
      go_wp2_with fail
      go_ret
      exact ⟨s + 1, s, rfl, HBX.out, HRW.out, HXX.out⟩

theorem tall1_any (k : Nat) (hk : k < 4) (made : ByteArray) (V F : Nat) (w : World) (hV : Row w V 213 [.slice (some ⟨F, 0, none⟩) 4 4]) (hF : Row w F 4 (tk 4)) :
    Calls Tryz.prog 134 #[.string made, .int .i64 k, .pointer (some ⟨V, 0, none⟩)] w fun e w' => e = .returned (.bool (decide (k = 1))) ∧ Ext w w' := by
  have v0 := hV.cell 0
  have vl := hV.lt
  have f0 := hF.cell k
  have fl := hF.lt
  simp only [List.getElem?_cons_zero] at v0
  clear hV hF
  have h4 : k = 0 ∨ k = 1 ∨ k = 2 ∨ k = 3 := by omega
  rcases h4 with rfl | rfl | rfl | rfl
  all_goals
    simp [tk] at f0
    go_enter Tryz.func134, Tryz.ntmps134
    go_wp2_with fail
    go_ret
    exact ⟨rfl, Ext.refl _⟩
end Go.Proofs.YtcnhlogkhnoacaaGreatDoor

namespace Go.Cg
open Go.RowKit Go.Maps Go.ChangeMaps Go.MapKept
theorem MapFn.len {P : Program} {w : World} {K E t : TypeId} {b n : Nat} {f : Lit → Option Lit} (h : MapFn P w K E b n f) (ht : P.underlying t = some (.map K E)) : ∃ N : Nat, N ≤ n ∧ ∀ ty, (Builtin.len_ #[t] ty #[.map (some b)]).run P w = .ok (.int .i64 (N : Int)) w := by
  obtain ⟨D, hD, _⟩ := h
  exact ⟨_, hD.size_le, fun ty => hD.len ht ty⟩
/-- what the maker has made of the first k letters -/
def pw : Nat → ByteArray
  | 0 => ⟨#[]⟩
  | 1 => ⟨#[97]⟩
  | 2 => ⟨#[97, 99]⟩
  | _ => ⟨#[97, 99, 97]⟩
def oneF (s : ByteArray) : Lit → Option Lit := putFn (fun _ => none) (.string s.data.toList) (.bool true)
theorem oneF_self (s : ByteArray) (hk : WideAt.IsKeyLit (.string s.data.toList)) : (oneF s (.string s.data.toList)).isSome = true := by
  unfold oneF putFn
  rw [if_pos (WideAt.sameKey_self hk)]; rfl
theorem oneF_only {s : ByteArray} {kl : Lit} (h : (oneF s kl).isSome = true) : kl = .string s.data.toList := by
  unfold oneF putFn at h
  split at h
  · rename_i h1
    exact WideAt.sameKey_eq h1
  · cases h
end Go.Cg
namespace Go.Proofs.YtcnhlogkhnoacaaGreatDoor
open Go.RowKit Go.Cg Go.Shelf Go.Maps

set_option maxRecDepth 100000 in
set_option maxHeartbeats 4000000 in
theorem tinto_any (g : Nat) (q : Option Addr) (c t i l r : Nat) (w : World) (hM : MakerAt w g t i l r) (hR : TR w t i l r) :
    Calls Tryz.prog 132 #[.pointer (some ⟨g, 0, none⟩), .slice q 1 c] w fun e w' => ∃ p pc, e = .returned (.slice p 1 pc) ∧ OwnRunes 21 w.heap.size w' p pc [99] ∧ Ext w w' := by
  obtain ⟨i0, hi, hz0, hz1, hz2⟩ := info_parts infoR9
  have HR := Lib.hid (fun W (hW : Ext w W) => hR.ext hW)
  obtain ⟨g0, g1, g2, g3, g4⟩ := hM
  clear hR
  go_enter Tryz.func132, Tryz.ntmps132
  go_wp2_with fail
  clear g0 g1 g2 g3 g4
  go_loopw [5, 14] (fun o i wr => ∃ k : Nat, k ≤ 1 ∧ i = .int .i64 k ∧ Ext w wr ∧ wr.ownsRow w.heap.size 21 1 o k (([99].take k).map (Value.int .i32))) (fun _ i _ => 1 - (intOf i).toNat)
  case atStart => exact ⟨0, by decide, rfl, Ext.refl _, World.ownsRow_nil _ _ _ _⟩
  case round =>
    obtain ⟨k, hk, rfl, hx, hown⟩ := hrel
    by_cases hlt : k < 1
    · obtain rfl : k = 0 := by omega
      obtain ⟨_, _, _, _, il, i0', i1, i2, i3, _, _⟩ := HR.out _ hx
      obtain ⟨rp, rc, rfl⟩ := ownsRow_slice hown
      generalize wr = wo at *
      have ho6 := ownsRow_ext hown ((Ext.refl wo).alloc (.cells #[.int .i32 99, .int .i64 0, .int .u32 0, .int .u32 0] 76))
      have hx6 := hx.alloc (.cells #[.int .i32 99, .int .i64 0, .int .u32 0, .int .u32 0] 76)
      go_wp2_with (at_builtin; refine wpList_append_own _ rfl _ _ 36 rfl w.heap.size 21 i0 (.int .i32 0) 1 4 Tryz.underlying36 hi hz0 hz1 hz2 rfl (by decide) _ _ _ rfl (ho6.alloc _) ⟨wo.heap.size + 1, 0, none⟩ 1 1 [.int .i32 99] rfl rfl (by have := one_cell (wo.alloc (.cells #[.int .i32 99, .int .i64 0, .int .u32 0, .int .u32 0] 76)) (.int .i32 99) 21; rw [size_alloc] at this; exact this) (by simp [Value.oneCell']) (by unfold maxLen; omega) (by omega) (by have := hx6.le; simp at *; omega) ?_; intro v' w7 hown7 hgrow _)
      exact ⟨⟨1, by decide, by go_num, Ext.append (hx6.alloc _) (ho6.alloc _) hgrow (by have := hx6.le; simp at *), hown7⟩, by simp [intOf]⟩
    · obtain rfl : k = 1 := by omega
      obtain ⟨rp, rc, rfl⟩ := ownsRow_slice hown
      go_wp2_with fail
      go_ret
      exact ⟨rp, rc, rfl, ⟨hown, by decide, by decide⟩, hx⟩
end Go.Proofs.YtcnhlogkhnoacaaGreatDoor

namespace Go.Cg
open Go.RowKit Go.Maps Go.ChangeMaps Go.MapKept
theorem MapFn.kept_ {P : Program} {w w' : World} {K E : TypeId} {b n : Nat} {f : Lit → Option Lit} {row : Option Nat} (h : MapFn P w K E b n f) (hg : w.grownBy w' row) (hne : some b ≠ row) : MapFn P w' K E b n f := by
  obtain ⟨D, hD, hf⟩ := h
  exact ⟨D, hD.kept hg hne, hf⟩
theorem Row.grown {w w' : World} {B T : Nat} {l : List Value} {M : Nat} (h : Row w B T l) (hg : w.grownBy w' (some M)) (hne : B ≠ M) : Row w' B T l :=
  (hg.block B h.lt (fun e => hne (Option.some.inj e))).trans h
theorem MapFn.setc_ {P : Program} {w : World} {K E : TypeId} {b n : Nat} {f : Lit → Option Lit} (h : MapFn P w K E b n f) {a : Addr} (ha : b ≠ a.block) (u : Value) : MapFn P (w.setCell a u) K E b n f := by
  obtain ⟨D, hD, hf⟩ := h
  exact ⟨D, hD.setCell ha u, hf⟩
theorem pw_size (j : Nat) : (pw j).size ≤ 140737488351232 := by
  unfold pw
  split <;> decide
def mls (S k : Nat) : List Value := (List.range 5).map fun j => if j < k then .map (some (S + 1 + j)) else .map none
theorem mls_set (S k : Nat) (h : k < 5) : (mls S k).set k (.map (some (S + 1 + k))) = mls S (k + 1) := by
  have h5 : k = 0 ∨ k = 1 ∨ k = 2 ∨ k = 3 ∨ k = 4 := by omega
  rcases h5 with rfl | rfl | rfl | rfl | rfl <;> rfl
theorem mls_at (S j : Nat) (h : j < 5) : (mls S 5)[j]? = some (.map (some (S + 1 + j))) := by
  have h5 : j = 0 ∨ j = 1 ∨ j = 2 ∨ j = 3 ∨ j = 4 := by omega
  rcases h5 with rfl | rfl | rfl | rfl | rfl <;> rfl
theorem mls_some (S k j : Nat) (h : j < 5) : ∃ v, (mls S k)[j]? = some v := by
  have h5 : j = 0 ∨ j = 1 ∨ j = 2 ∨ j = 3 ∨ j = 4 := by omega
  rcases h5 with rfl | rfl | rfl | rfl | rfl <;> exact ⟨_, rfl⟩
/-- what lies in memory when run comes to place i -/
structure RunSt (P : Program) (K E T : TypeId) (w : World) (S i : Nat) : Prop where
  row : Row w S T (mls S 5)
  size : S + 6 ≤ w.heap.size
  cur : MapFn P w K E (S + 1 + i) 1 (oneF (pw i))
  rest : ∀ j, i < j → j < 5 → MapFn P w K E (S + 1 + j) 0 (fun _ => none)
theorem RunSt.ext {P : Program} {K E T : TypeId} {w w' : World} {S i : Nat} (h : RunSt P K E T w S i) (hx : Ext w w') : RunSt P K E T w' S i :=
  ⟨h.row.ext hx, Nat.le_trans h.size hx.le, h.cur.ext hx, fun j h1 h2 => (h.rest j h1 h2).ext hx⟩
theorem RunSt.kept {P : Program} {K E T : TypeId} {w w' : World} {S i M : Nat} (h : RunSt P K E T w S i) (hg : w.grownBy w' (some M)) (hM : S + 6 ≤ M) (hi : i < 5) : RunSt P K E T w' S i :=
  ⟨h.row.grown hg (by omega), Nat.le_trans h.size hg.size, h.cur.kept_ hg (fun e => by have := Option.some.inj e; omega), fun j h1 h2 => (h.rest j h1 h2).kept_ hg (fun e => by have := Option.some.inj e; omega)⟩
theorem RunSt.step {P : Program} {K E T : TypeId} {w w' : World} {S i : Nat} (h : RunSt P K E T w S i) (hg : w.grownBy w' (some (S + 1 + (i + 1)))) (hm : MapFn P w' K E (S + 1 + (i + 1)) 1 (oneF (pw (i + 1)))) : RunSt P K E T w' S (i + 1) :=
  ⟨h.row.grown hg (by omega), Nat.le_trans h.size hg.size, hm, fun j h1 h2 => (h.rest j (by omega) h2).kept_ hg (fun e => by have := Option.some.inj e; omega)⟩
end Go.Cg
namespace Go.Proofs.YtcnhlogkhnoacaaGreatDoor
open Go.RowKit Go.Cg Go.Shelf Go.Maps

theorem has_key {w : World} {D : DataW Unit} {b n : Nat} {K : TypeId} {R : Value → Option (DataW Unit × List MemPlace)} (h : w.ownsMap Tryz.prog K R b n D) (hK : Keyed Tryz.prog K) {z : Lit} (hz : has D z = true) : WideAt.IsKeyLit z := by
  obtain ⟨es, rfl, _, hk⟩ := h.entries hK
  obtain ⟨p, hp, hpz⟩ := List.any_eq_true.1 hz
  rw [← WideAt.sameKey_eq hpz]
  exact hk p hp
theorem invS_ {P : Program} {K : TypeId} (hk : P.underlying K = some .string) : ∀ key kl, keyOf P K key = some kl → ∃ x, key = Value.string x := fun key kl h => by
  rw [Go.keyOf_string hk] at h
  cases key <;> simp [mapKey, hk] at h
  exact ⟨_, rfl⟩
structure NextS (P : Program) (k : TypeId) (R : Value → Option (DataW Unit × List MemPlace)) (b r n : Nat) (D : DataW Unit) (left : Lit → Bool) (cnt : Nat) (w w' : World) (x : ByteArray) : Prop where
  ex : ∃ kl cnt', keyOf P k (.string x) = some kl ∧ left kl = true ∧ w'.ranges P k R b r n D (fun z => left z && !z.sameKey kl) cnt' ∧ cnt' < cnt ∧ w.grownBy w' (some r) ∧ w'.heap.size = w.heap.size
/-- the step of a range over a map whose keys are texts -/
theorem wpList_next_str {P : Program} (w : World) {ops : Array Oper} {rest : List Oper} {o : Oper} {a : Act} {Q : Exit → Act → World → Prop} (hg : o.guard = none) (it : Operand) (hop : o.op = Op.next it false) (k : TypeId) (K : Keyed P k) (hk : P.underlying k = some .string) (R : Value → Option (DataW Unit × List MemPlace))
    (b r n : Nat) (D : DataW Unit) (left : Lit → Bool) (cnt : Nat) (hit : a.eval it = .pointer (some ⟨r, 0, none⟩)) (h : w.ranges P k R b r n D left cnt)
    (hDone : Hid (∀ kl, left kl = false) → wpList P ops Q rest (a.put o.dst (.tuple #[.bool false])) w)
    (hMore : ∀ (x : ByteArray) (v : Value) (w' : World), NextS P k R b r n D left cnt w w' x →
      (Instr.entry (.pointer (some ⟨r, 0, none⟩))).run P w' = .ok (.tuple #[.string x, v]) w' → wpList P ops Q rest (a.put o.dst (.tuple #[.bool true, .string x, v])) w') :
    wpList P ops Q (o :: rest) a w :=
  wpList_next_ranges w hg it hop k K R Value.string (fun v => v) (invS_ hk) (fun v _ _ => ⟨v, rfl⟩) b r n D left cnt hit h (fun _ h2 => hDone h2)
    (fun x c kl _ w' cnt' h1 h2 _ _ h5 h6 h7 h8 h9 => hMore x c w' ⟨⟨kl, cnt', h1, h2, h5, h6, h7, h8⟩⟩ h9)
theorem keyS_inv {P : Program} {K : TypeId} (hk : P.underlying K = some .string) {x : ByteArray} {kl : Lit} (h : keyOf P K (.string x) = some kl) : kl = .string x.data.toList := by
  rw [Go.keyOf_string hk] at h
  simp [mapKey, hk] at h
  exact h.2.symm

theorem keyP (j : Nat) {s : ByteArray} (h : s = pw j) : keyOf Tryz.prog 9 (.string s) = some (.string (pw j).data.toList) := by
  subst h
  exact keyS (pw_size j)
theorem infoS9 : (Tryz.prog.info? 9).map (fun i => (i.zero, i.size, i.bytes)) = some (some (.string ⟨#[]⟩), 1, 16) := by kernel_rfl
theorem mkm5 (W : World) : (Instr.makeSlice 211 (.int .i64 5) (.int .i64 5)).run Tryz.prog W = .ok (.slice (some ⟨W.heap.size, 0, none⟩) 5 5) (W.alloc (.cells #[.map none, .map none, .map none, .map none, .map none] 139 (0, 0))) := by kernel_rfl
theorem tcount_any (j : Nat) (h : j < 5) (w : World) : Calls Tryz.prog 74 #[.string (pw j)] w fun e w' => e = .returned (.int .i64 ((min j 3 : Nat) : Int)) ∧ Ext w w' := by
  have h5 : j = 0 ∨ j = 1 ∨ j = 2 ∨ j = 3 ∨ j = 4 := by omega
  rcases h5 with rfl | rfl | rfl | rfl | rfl
  all_goals
    refine (Any.utf8_RuneCountInString Tryz.lays195 _ w (by decide)).mono fun e w' h => ⟨?_, by obtain ⟨pos, rfl⟩ := h.2; exact (Ext.refl _).alloc _⟩
    rw [h.1]
    exact ret_int (by decide +kernel)

set_option maxRecDepth 100000 in
set_option maxHeartbeats 4000000 in
theorem trun_any (g b lc t i l r : Nat) (hlc : 3 ≤ lc) (w : World) (hM : MakerAt w g t i l r) (hR : TR w t i l r) (hL : LAt w b) :
    Calls Tryz.prog 95 #[.pointer (some ⟨g, 0, none⟩), .slice (some ⟨b, 0, none⟩) 3 lc, .func (.func 96) #[.pointer (some ⟨g, 0, none⟩)] #[], .bool false] w fun e w' =>
      ∃ p c, e = .returned (.tuple #[.slice p 1 c, .int .i64 0]) ∧ (∃ B, p = some ⟨B, 0, none⟩ ∧ B < w'.heap.size ∧ w'.cell? ⟨B, 0, none⟩ = some (.string (pw 4))) ∧ Ext w w' := by
  have hmm := @run_makeMap Tryz.prog
  have hm5 := mkm5
  have ega : ∀ args W, (callFunc 96 args).run Tryz.prog W = .ok (.enter 96 args) W := @enters_of Tryz.prog 96 _ _ Tryz.func96 (by kernel_rfl) rfl
  have egb : ∀ args W, (callFunc 134 args).run Tryz.prog W = .ok (.enter 134 args) W := @enters_of Tryz.prog 134 _ _ Tryz.func134 (by kernel_rfl) rfl
  have HALL := Lib.hid (tall_any g b lc t i l r w hM hR hL)
  have HM := Lib.hid (fun W (hW : Ext w W) => hM.ext hW)
  have HR := Lib.hid (fun W (hW : Ext w W) => hR.ext hW)
  have HL := Lib.hid (fun W (hW : Ext w W) => hL.ext hW)
  clear hM hR hL
  go_enter Tryz.func95, Tryz.ntmps95
  go_wp2_with fail
  refine HALL.out.mono ?_
  rintro e w1 ⟨V, F, rfl, hV, hF, hx1⟩
  have g1 := (HM.out _ hx1).g1
  have HV := Lib.hid hV
  have HF := Lib.hid hF
  have HX1 := Lib.hid hx1
  clear hV hF hx1 HALL
  go_wp2_with fail
  (refine wp_region_ext (by kernel_rfl) (by kernel_rfl) ?_; intro ι hι g hg; have q_g1 := hg.cell g1; clear g1; (repeat (go_big_quiet_step (fail))); refine wpQuiet_nil ?_; rintro w2 ⟨i2, rfl⟩; have hq := hg.ext i2; generalize g i2 = w2 at hq ⊢; clear q_g1 i2 hg g hι ι)
  have HX2 := Lib.hid hq
  obtain ⟨S, hS⟩ : ∃ S, w2.heap.size = S := ⟨_, rfl⟩
  obtain ⟨W3, hW3⟩ : ∃ W, w2.alloc (.cells #[.map none, .map none, .map none, .map none, .map none] 139) = W := ⟨_, rfl⟩
  have hx3 : Ext w2 W3 := by rw [← hW3]; exact (Ext.refl _).alloc _
  have hr3 : Row W3 S 139 (mls S 0) := by rw [← hW3, ← hS]; exact heap_alloc_new _ _
  have hz3 : W3.heap.size = S + 1 := by rw [← hW3, size_alloc, hS]
  have HX3 := Lib.hid (hq.trans hx3)
  have HSL := Lib.hid (fun W (hW : Ext w1 W) => (by
    have := hW.le; exact this : w1.heap.size ≤ W.heap.size))
  have hS1 : w1.heap.size ≤ S := by have := hq.le; omega
  have HS1 := Lib.hid hS1
  have HR3 := Lib.hid hr3
  have HZ3 := Lib.hid hz3
  have HW3 := Lib.hid hW3
  clear hW3 hx3 hr3 hz3 hq hS1
  go_wp2_with fail
  rw [HW3.out]
  clear HW3
  go_loopw [40] (fun i wr => ∃ k : Nat, k ≤ 5 ∧ i = .int .i64 k ∧ Ext w1 wr ∧ wr.heap.size = S + 1 + k ∧ Row wr S 139 (mls S k) ∧ Hid (∀ j, j < k → MapFn Tryz.prog wr 9 4 (S + 1 + j) 0 (fun _ => none))) (fun i _ => 5 - (intOf i).toNat)
  case atStart => exact ⟨0, by decide, rfl, HX3.out, HZ3.out, HR3.out, fun j hj => by omega⟩
  case round =>
    obtain ⟨k, hk, rfl, hx, hz, hrow, HMP⟩ := hrel
    by_cases hlt : k < 5
    · generalize wr = wo at *
      obtain ⟨W4, hW4⟩ : ∃ W, wo.alloc (.map #[] 0) = W := ⟨_, rfl⟩
      have hx4 : Ext wo W4 := by rw [← hW4]; exact (Ext.refl _).alloc _
      have hz4 : W4.heap.size = S + 1 + k + 1 := by rw [← hW4, size_alloc, hz]
      have hm4 : MapFn Tryz.prog W4 9 4 (S + 1 + k) 0 (fun _ => none) := by rw [← hW4, ← hz]; exact MapFn.made _ _ _ _
      have hr4 := hrow.ext hx4
      obtain ⟨v, hv⟩ := mls_some S k k hlt
      have f0 : (wo.alloc (.map #[] 0)).cell? ⟨S, k, none⟩ = some v := by rw [hW4]; exact (hr4.cell k).trans hv
      have f1 : (wo.alloc (.map #[] 0)).frozen? ⟨S, k, none⟩ = false := by rw [hW4]; exact hr4.froz k
      obtain ⟨W5, hW5⟩ : ∃ W, W4.setCell ⟨S, k, none⟩ (.map (some (S + 1 + k))) = W := ⟨_, rfl⟩
      have hx5 : Ext w1 W5 := by rw [← hW5]; exact (hx.trans hx4).setCell (p := ⟨S, k, none⟩) HS1.out _
      have hz5 : W5.heap.size = S + 1 + (k + 1) := by rw [← hW5]; simp [World.setCell]; omega
      have hr5 : Row W5 S 139 (mls S (k + 1)) := by rw [← hW5, ← mls_set S k hlt]; exact hr4.set k _
      have hm5' : ∀ j, j < k + 1 → MapFn Tryz.prog W5 9 4 (S + 1 + j) 0 (fun _ => none) := fun j hj => by
        rw [← hW5]
        refine MapFn.setc_ ?_ (by show S + 1 + j ≠ S; omega) _
        by_cases hjk : j = k
        · rw [hjk]; exact hm4
        · exact (HMP.out j (by omega)).ext hx4
      have HX5 := Lib.hid hx5
      have HZ5 := Lib.hid hz5
      have HR5 := Lib.hid hr5
      have HM5 := Lib.hid hm5'
      have HW4 := Lib.hid hW4
      have HW5 := Lib.hid hW5
      clear hx hx4 hm4 hr4 hW4 hW5 hx5 hz5 hr5 hm5' HMP hrow hz4 hv
      go_wp2_with fail
      rw [HW4.out, HW5.out]
      exact ⟨⟨k + 1, by omega, by go_num, HX5.out, HZ5.out, HR5.out, HM5⟩, by simp [intOf]; omega⟩
    · obtain rfl : k = 5 := by omega
      generalize wr = wo at *
      have f0 : wo.cell? ⟨S, 0, none⟩ = some (.map (some (S + 1))) := (hrow.cell 0).trans (mls_at S 0 (by decide))
      have f2 := hrow.lt
      have hM0 := HMP.out 0 (by decide)
      have HX := Lib.hid hx
      have HROW := Lib.hid hrow
      clear hx hrow
      rw [Nat.add_zero] at hM0
      go_wp2_with (at_mapUpdate; refine wpList_mapUpdate_fn _ rfl _ _ _ 139 rfl 9 4 (S + 1) 0 (fun _ => none) hM0 lawS Tryz.underlying139 (by unfold maxLen; omega) rfl _ _ _ (.bool true) rfl rfl (keyS (s := ⟨#[]⟩) (by decide)) (plainElem_bool Tryz.underlying4 true) ?_; intro w6 hM6 hg6 hs6)
      have hst : RunSt Tryz.prog 9 4 139 w6 S 0 := ⟨HROW.out.grown hg6 (by omega), by omega, hM6, fun j h1 h2 => (HMP.out j h2).kept_ hg6 (fun e => by have := Option.some.inj e; omega)⟩
      have HST := Lib.hid hst
      have HX6 := Lib.hid (gq_of_ext HX.out hg6 (by have := HS1.out; omega))
      clear hst hM6 hg6 hs6 hM0 f0 f2 HMP HROW
      go_loopw [53] (fun i wr => ∃ k : Nat, k ≤ 4 ∧ i = .int .i64 k ∧ Ext w1 wr ∧ RunSt Tryz.prog 9 4 139 wr S k) (fun i _ => 4 - (intOf i).toNat)
      case atStart => exact ⟨0, by decide, rfl, HX6.out, HST.out⟩
      case round =>
        obtain ⟨i, hi4, rfl, hx, hst⟩ := hrel
        by_cases hlt : i < 4
        · generalize wr = wp at *
          have f0 := (hst.row.cell i).trans (mls_at S i (by omega))
          have f2 := hst.row.lt
          obtain ⟨N, hN, hlen⟩ := hst.cur.len Tryz.underlying139
          obtain ⟨D, hD, hDf⟩ := hst.cur
          have HST2 := Lib.hid hst
          have HX7 := Lib.hid hx
          have hN2 : ((N : Int) > 1024) = False := by simp; omega
          clear hst hx
          go_wp2_with (at_range; refine wpList_range_own _ rfl _ 139 rfl 9 4 lawS Tryz.underlying139 _ (S + 1 + i) 1 D rfl hD ?_; intro w0 hrg0 hg0 hs0)
          go_frame
          have hx0 : Ext wp w0 := Ext.grown (Ext.refl _) hg0 (fun _ e => by cases e)
          have hkl : WideAt.IsKeyLit (.string (pw i).data.toList) := lawS.key (keyS (s := pw i) (pw_size i))
          have hall : ∀ z, has D z = true → z = .string (pw i).data.toList := fun z hz => oneF_only (by rw [← (hDf z (has_key hD lawS hz)).1]; exact hz)
          have hself : has D (.string (pw i).data.toList) = true := by rw [(hDf _ hkl).1]; exact oneF_self _ hkl
          have HALL := Lib.hid hall
          have HSELF := Lib.hid hself
          have HRG0 := Lib.hid hrg0
          have HX0 := Lib.hid (HX7.out.trans hx0)
          have HST0 := Lib.hid (HST2.out.ext hx0)
          have HR6 := Lib.hid (by have := HST2.out.size; exact this : S + 6 ≤ wp.heap.size)
          clear hx0 hkl hall hself hrg0 hg0 hs0 hD hDf f0 f2 hlen hN2 hN
          go_loopw [] (fun wr => Ext w1 wr ∧ ∃ left cnt, wr.ranges Tryz.prog 9 (plainElem Tryz.prog 4) (S + 1 + i) wp.heap.size 1 D left cnt ∧ Hid ((left = has D ∧ RunSt Tryz.prog 9 4 139 wr S i) ∨ ((∀ kl, left kl = false) ∧ RunSt Tryz.prog 9 4 139 wr S (i + 1)))) (fun wr => wr.rangeLeft (S + 1 + i) wp.heap.size)
          case atStart => exact ⟨HX0.out, _, _, HRG0.out, .inl ⟨rfl, HST0.out⟩⟩
          case round =>
            obtain ⟨hx, left, cnt, hrg, HC⟩ := hrel
            have HX9 := Lib.hid hx
            have HRG := Lib.hid hrg
            clear hx
            generalize wr = wq at *
            go_wp2_with (at_next; refine wpList_next_str _ rfl _ rfl 9 lawS Tryz.underlying9 (plainElem Tryz.prog 4) (S + 1 + i) wp.heap.size 1 D left cnt rfl hrg ?_ ?_)
            · intro hl0
              rcases HC.out with ⟨rfl, _⟩ | ⟨_, hst⟩
              · have := hl0.out (.string (pw i).data.toList)
                rw [HSELF.out] at this; cases this
              · have HST9 := Lib.hid hst
                clear hst hrg hl0
                go_wp2_with fail
                exact ⟨⟨i + 1, by omega, by go_num, HX9.out, HST9.out⟩, by simp [intOf]; omega⟩
            · intro x c w9 HN hen
              have hxi : x = pw i ∧ RunSt Tryz.prog 9 4 139 wq S i ∧ ∀ z, left z = true → z = .string (pw i).data.toList := by
                obtain ⟨kl, cnt9, hkey, hlk, _⟩ := HN.ex
                rcases HC.out with ⟨rfl, hst⟩ | ⟨hno, _⟩
                · refine ⟨?_, hst, HALL.out⟩
                  have h1 := HALL.out kl hlk
                  rw [keyS_inv Tryz.underlying9 hkey] at h1
                  simp only [Lit.string.injEq] at h1
                  cases x
                  rename_i dx
                  cases hpw : pw i
                  rename_i dp
                  rw [hpw] at h1
                  simp_all
                · rw [hno] at hlk; cases hlk
              obtain ⟨rfl, hst, hleft⟩ := hxi
              obtain ⟨M, hMe⟩ : ∃ M, S + 1 + (i + 1) = M := ⟨_, rfl⟩
              obtain ⟨kl, cnt9, hkey, hlk, hrg9, hlt9, hg9, hs9⟩ := HN.ex
              have hr6 := HR6.out
              have hst9 := hst.kept hg9 hr6 (by omega)
              have hx9 : Ext w1 w9 := gq_of_ext HX9.out hg9 (by have := HS1.out; omega)
              have hno9 : ∀ z, (left z && !z.sameKey kl) = false := fun z => by
                cases hz : left z
                · rfl
                · rw [hleft z hz, hleft kl hlk, WideAt.sameKey_self (by rw [← hleft kl hlk]; exact lawS.key hkey)]; rfl
              have HFW := Lib.hid (fun W (hW : Ext w9 W) => (⟨by rw [(hst9.row.ext hW).cell, mls_at S (i + 1) (by omega), hMe], (hst9.row.ext hW).lt, by rw [← hMe]; exact (hst9.rest (i + 1) (by omega) (by omega)).ext hW⟩ : W.cell? ⟨S, i + 1, none⟩ = some (.map (some M)) ∧ S < W.heap.size ∧ MapFn Tryz.prog W 9 4 M 0 (fun _ => none)))
              have HFIN := Lib.hid (fun W W' (hW : Ext w9 W) (hg : W.grownBy W' (some M)) (hm : MapFn Tryz.prog W' 9 4 M 1 (oneF (pw (i + 1)))) => (by
                refine ⟨⟨gq_of_ext (hx9.trans hW) hg (by have := HS1.out; omega), _, cnt9, (hrg9.kept (gq_ext (gq_refl w9 none) hW) (by simp) (by simp)).kept hg (fun e => by have := Option.some.inj e; omega) (fun e => by have := Option.some.inj e; omega), .inr ⟨hno9, ?_⟩⟩, ?_⟩
                · subst hMe
                  exact (hst9.ext hW).step hg hm
                · rw [((hrg9.kept (gq_ext (gq_refl w9 none) hW) (by simp) (by simp)).kept hg (fun e => by have := Option.some.inj e; omega) (fun e => by have := Option.some.inj e; omega)).left_eq, HRG.out.left_eq]
                  exact hlt9 : (Ext w1 W' ∧ ∃ left cnt, W'.ranges Tryz.prog 9 (plainElem Tryz.prog 4) (S + 1 + i) wp.heap.size 1 D left cnt ∧ Hid ((left = has D ∧ RunSt Tryz.prog 9 4 139 W' S i) ∨ ((∀ kl, left kl = false) ∧ RunSt Tryz.prog 9 4 139 W' S (i + 1)))) ∧ W'.rangeLeft (S + 1 + i) wp.heap.size < wq.rangeLeft (S + 1 + i) wp.heap.size))
              have HV9 := Lib.hid (fun W (hW : Ext w9 W) => (⟨HV.out.ext (hx9.trans hW), HF.out.ext (hx9.trans hW)⟩ : Row W V 213 [.slice (some ⟨F, 0, none⟩) 4 4] ∧ Row W F 4 (tk 4)))
              have HW9 := Lib.hid (fun W (hW : Ext w9 W) => (HX1.out.trans (hx9.trans hW) : Ext w W))
              clear HN hkey hlk hrg9 hlt9 hg9 hs9 hst9 hno9 hleft hr6 hst hx9 hrg HRG HC HALL HSELF HRG0 HX0 HST0 HST2 HX7 HX9
              have HCT := Lib.hid (tcount_any i (by omega) w9)
              rw [Nat.min_eq_left (by omega)] at HCT
              have h4 : i = 0 ∨ i = 1 ∨ i = 2 ∨ i = 3 := by omega
              rcases h4 with rfl | rfl | rfl | rfl
              · go_wp2_with fail
                refine HCT.out.mono ?_
                rintro e w10 ⟨rfl, hx10⟩
                have HX10 := Lib.hid hx10
                obtain ⟨v9, f9⟩ := HV9.out _ hx10
                have HA1 := Lib.hid (tall1_any 0 (by decide) (pw 0) V F w10 v9 f9)
                clear hx10 v9 f9
                go_wp2_with fail
                refine HA1.out.mono ?_
                rintro e w11 ⟨rfl, hx11⟩
                have hx := HX10.out.trans hx11
                obtain ⟨f0, f2, hM0⟩ := HFW.out _ hx
                obtain ⟨b0, c0, c1, c2⟩ := HL.out _ (HW9.out _ hx)
                have HXX := Lib.hid hx
                clear hx hx11
                rw [show decide (0 = 1) = false from rfl, show pw 0 = ⟨#[]⟩ from rfl]
                go_wp2_with (at_mapUpdate; refine wpList_mapUpdate_fn _ rfl _ _ _ 139 rfl 9 4 M 0 (fun _ => none) hM0 lawS Tryz.underlying139 (by unfold maxLen; omega) rfl _ _ (.string (pw 1).data.toList) (.bool true) rfl rfl (keyP 1 (by decide +kernel)) (plainElem_bool Tryz.underlying4 true) ?_; intro w12 hM12 hg12 hs12)
                have hfin := HFIN.out _ _ HXX.out hg12 hM12
                refine ⟨?_, hfin.2⟩
                repeat apply Exists.intro
                exact ⟨hfin.1, rfl⟩
              · go_wp2_with fail
                refine HCT.out.mono ?_
                rintro e w10 ⟨rfl, hx10⟩
                have HX10 := Lib.hid hx10
                obtain ⟨v9, f9⟩ := HV9.out _ hx10
                have HA1 := Lib.hid (tall1_any 1 (by decide) (pw 1) V F w10 v9 f9)
                clear hx10 v9 f9
                go_wp2_with fail
                refine HA1.out.mono ?_
                rintro e w11 ⟨rfl, hx11⟩
                have hx := HX10.out.trans hx11
                have HTI := Lib.hid (tinto_any g (some ⟨b, 1, none⟩) (lc - 1) t _ l r w11 (HM.out _ (HW9.out _ hx)) (HR.out _ (HW9.out _ hx)))
                have HXX := Lib.hid hx
                clear hx hx11
                simp only [decide_true]
                rw [show pw 1 = ⟨#[97]⟩ from rfl]
                go_wp2_with fail
                refine HTI.out.mono ?_
                rintro e w13 ⟨p, pc, rfl, hO, hx13⟩
                have hx := HXX.out.trans hx13
                obtain ⟨f0, f2, hM0⟩ := HFW.out _ hx
                have hcv := hO.at_.text (P := Tryz.prog) (src := 36) (dst := 9) Tryz.underlying36 Tryz.underlying21 Tryz.underlying9 pc
                rw [show runesBytes [99] = ⟨#[99]⟩ from by decide +kernel] at hcv
                simp only [List.length_cons, List.length_nil, Nat.zero_add] at hcv
                have HXY := Lib.hid hx
                clear hx hx13 hO
                go_wp2_with (at_mapUpdate; refine wpList_mapUpdate_fn _ rfl _ _ _ 139 rfl 9 4 M 0 (fun _ => none) hM0 lawS Tryz.underlying139 (by unfold maxLen; omega) rfl _ _ (.string (pw 2).data.toList) (.bool true) rfl rfl (keyP 2 (by decide +kernel)) (plainElem_bool Tryz.underlying4 true) ?_; intro w12 hM12 hg12 hs12)
                have hfin := HFIN.out _ _ HXY.out hg12 hM12
                refine ⟨?_, hfin.2⟩
                repeat apply Exists.intro
                exact ⟨hfin.1, rfl⟩
              · go_wp2_with fail
                refine HCT.out.mono ?_
                rintro e w10 ⟨rfl, hx10⟩
                have HX10 := Lib.hid hx10
                obtain ⟨v9, f9⟩ := HV9.out _ hx10
                have HA1 := Lib.hid (tall1_any 2 (by decide) (pw 2) V F w10 v9 f9)
                clear hx10 v9 f9
                go_wp2_with fail
                refine HA1.out.mono ?_
                rintro e w11 ⟨rfl, hx11⟩
                have hx := HX10.out.trans hx11
                obtain ⟨f0, f2, hM0⟩ := HFW.out _ hx
                obtain ⟨b0, c0, c1, c2⟩ := HL.out _ (HW9.out _ hx)
                have HXX := Lib.hid hx
                clear hx hx11
                rw [show decide (2 = 1) = false from rfl, show pw 2 = ⟨#[97, 99]⟩ from rfl]
                go_wp2_with (at_mapUpdate; refine wpList_mapUpdate_fn _ rfl _ _ _ 139 rfl 9 4 M 0 (fun _ => none) hM0 lawS Tryz.underlying139 (by unfold maxLen; omega) rfl _ _ (.string (pw 3).data.toList) (.bool true) rfl rfl (keyP 3 (by decide +kernel)) (plainElem_bool Tryz.underlying4 true) ?_; intro w12 hM12 hg12 hs12)
                have hfin := HFIN.out _ _ HXX.out hg12 hM12
                refine ⟨?_, hfin.2⟩
                repeat apply Exists.intro
                exact ⟨hfin.1, rfl⟩
              · go_wp2_with fail
                refine HCT.out.mono ?_
                rintro e w10 ⟨rfl, hx10⟩
                have HX10 := Lib.hid hx10
                obtain ⟨v9, f9⟩ := HV9.out _ hx10
                have HA1 := Lib.hid (tall1_any 3 (by decide) (pw 3) V F w10 v9 f9)
                clear hx10 v9 f9
                go_wp2_with fail
                refine HA1.out.mono ?_
                rintro e w11 ⟨rfl, hx11⟩
                have hx := HX10.out.trans hx11
                obtain ⟨f0, f2, hM0⟩ := HFW.out _ hx
                obtain ⟨b0, c0, c1, c2⟩ := HL.out _ (HW9.out _ hx)
                have HXX := Lib.hid hx
                clear hx hx11
                rw [show decide (3 = 1) = false from rfl, show pw 3 = ⟨#[97, 99, 97]⟩ from rfl]
                go_wp2_with (at_mapUpdate; refine wpList_mapUpdate_fn _ rfl _ _ _ 139 rfl 9 4 M 0 (fun _ => none) hM0 lawS Tryz.underlying139 (by unfold maxLen; omega) rfl _ _ (.string (pw 4).data.toList) (.bool true) rfl rfl (keyP 4 (by decide +kernel)) (plainElem_bool Tryz.underlying4 true) ?_; intro w12 hM12 hg12 hs12)
                have hfin := HFIN.out _ _ HXX.out hg12 hM12
                refine ⟨?_, hfin.2⟩
                repeat apply Exists.intro
                exact ⟨hfin.1, rfl⟩
        · obtain rfl : i = 4 := by omega
          generalize wr = wp at *
          have f0 := (hst.row.cell 4).trans (mls_at S 4 (by omega))
          have f2 := hst.row.lt
          obtain ⟨N, hN, hlen⟩ := hst.cur.len Tryz.underlying139
          obtain ⟨D, hD, hDf⟩ := hst.cur
          have HX7 := Lib.hid hx
          have hN2 : ((N : Int) > 1024) = False := by simp; omega
          clear hst hx
          go_wp2_with (at_range; refine wpList_range_own _ rfl _ 139 rfl 9 4 lawS Tryz.underlying139 _ (S + 1 + 4) 1 D rfl hD ?_; intro w0 hrg0 hg0 hs0)
          go_frame
          have hx0 : Ext wp w0 := Ext.grown (Ext.refl _) hg0 (fun _ e => by cases e)
          have hkl : WideAt.IsKeyLit (.string (pw 4).data.toList) := lawS.key (keyS (s := pw 4) (pw_size 4))
          have hall : ∀ z, has D z = true → z = .string (pw 4).data.toList := fun z hz => oneF_only (by rw [← (hDf z (has_key hD lawS hz)).1]; exact hz)
          have hself : has D (.string (pw 4).data.toList) = true := by rw [(hDf _ hkl).1]; exact oneF_self _ hkl
          have HALL := Lib.hid hall
          have HSELF := Lib.hid hself
          have HRG0 := Lib.hid hrg0
          have HX0 := Lib.hid (HX7.out.trans hx0)
          have HR6 := Lib.hid (by have := HX7.out.le; exact this : w1.heap.size ≤ wp.heap.size)
          clear hx0 hkl hall hself hrg0 hg0 hs0 hD hDf f0 f2 hlen hN2 hN
          go_loopw [22] (fun o wr => Ext w1 wr ∧ ∃ left cnt, wr.ranges Tryz.prog 9 (plainElem Tryz.prog 4) (S + 1 + 4) wp.heap.size 1 D left cnt ∧ Hid ((left = has D ∧ o = .slice none 0 0) ∨ ((∀ kl, left kl = false) ∧ wr.ownsRow w1.heap.size 9 1 o 1 [.string (pw 4)]))) (fun _ wr => wr.rangeLeft (S + 1 + 4) wp.heap.size)
          case atStart => exact ⟨HX0.out, _, _, HRG0.out, .inl ⟨rfl, rfl⟩⟩
          case round =>
            obtain ⟨hx, left, cnt, hrg, HC⟩ := hrel
            have HX9 := Lib.hid hx
            have HRG := Lib.hid hrg
            clear hx
            generalize wr = wq at *
            go_wp2_with (at_next; refine wpList_next_str _ rfl _ rfl 9 lawS Tryz.underlying9 (plainElem Tryz.prog 4) (S + 1 + 4) wp.heap.size 1 D left cnt rfl hrg ?_ ?_)
            · intro hl0
              rcases HC.out with ⟨rfl, _⟩ | ⟨_, hown⟩
              · have := hl0.out (.string (pw 4).data.toList)
                rw [HSELF.out] at this; cases this
              · obtain ⟨p, c, rfl⟩ := ownsRow_slice hown
                have HO := Lib.hid hown
                have HXE := Lib.hid (HX1.out.trans HX9.out)
                clear hown hrg hl0
                go_wp2_with fail
                go_ret2
                refine ⟨p, c, rfl, ?_, HXE.out⟩
                obtain ⟨_, h⟩ := HO.out
                rcases h with ⟨_, h0⟩ | ⟨B, cap, cur, h, _, hb, _, _, hs, ht⟩
                · cases h0
                · simp only [Value.slice.injEq] at h
                  refine ⟨B, h.1, (Array.getElem?_eq_some_iff.1 hb).1, ?_⟩
                  have : (cur.toList.take 1)[0]? = some (.string (pw 4)) := by rw [show cur.toList.take 1 = _ from ht]; rfl
                  rw [List.getElem?_take_of_lt (by decide)] at this
                  simp [World.cell?, hb]
                  simpa using this
            · intro x c w9 HN hen
              have hxi : x = pw 4 ∧ u22 = .slice none 0 0 ∧ ∀ z, left z = true → z = .string (pw 4).data.toList := by
                obtain ⟨kl, cnt9, hkey, hlk, _⟩ := HN.ex
                rcases HC.out with ⟨rfl, hst⟩ | ⟨hno, _⟩
                · refine ⟨?_, hst, HALL.out⟩
                  have h1 := HALL.out kl hlk
                  rw [keyS_inv Tryz.underlying9 hkey] at h1
                  simp only [Lit.string.injEq] at h1
                  cases x
                  rename_i dx
                  cases hpw : pw 4
                  rename_i dp
                  rw [hpw] at h1
                  simp_all
                · rw [hno] at hlk; cases hlk
              obtain ⟨rfl, rfl, hleft⟩ := hxi
              obtain ⟨kl, cnt9, hkey, hlk, hrg9, hlt9, hg9, hs9⟩ := HN.ex
              have hx9 : Ext w1 w9 := gq_of_ext HX9.out hg9 HR6.out
              have hno9 : ∀ z, (left z && !z.sameKey kl) = false := fun z => by
                cases hz : left z
                · rfl
                · rw [hleft z hz, hleft kl hlk, WideAt.sameKey_self (by rw [← hleft kl hlk]; exact lawS.key hkey)]; rfl
              have HX9' := Lib.hid hx9
              have HRG9 := Lib.hid hrg9
              have HNO9 := Lib.hid hno9
              have HLT9 := Lib.hid (by rw [HRG.out.left_eq]; exact hlt9 : cnt9 < wq.rangeLeft (S + 1 + 4) wp.heap.size)
              have HCT := Lib.hid (tcount_any 4 (by decide) w9)
              clear HN hkey hlk hrg9 hlt9 hg9 hs9 hno9 hleft hx9 hrg HRG HC HALL HSELF HRG0 HX0 HX7 HX9
              go_wp2_with fail
              refine HCT.out.mono ?_
              rintro e w10 ⟨rfl, hx10⟩
              rw [show ((min 4 3 : Nat) : Int) = 3 from rfl]
              have hx11 : Ext w1 (w10.alloc (.cells #[.string (pw 4)] 9)) := (HX9'.out.trans hx10).alloc _
              have hw9 : Ext w9 (w10.alloc (.cells #[.string (pw 4)] 9)) := hx10.alloc _
              have HX11 := Lib.hid hx11
              have HW9 := Lib.hid hw9
              obtain ⟨j0, ji, jz0, jz1, jz2⟩ := info_parts infoS9
              clear hx10 hx11 hw9
              go_wp2_with (at_builtin; refine wpList_append_own _ rfl _ _ 22 rfl w1.heap.size 9 j0 (.string ⟨#[]⟩) 1 16 Tryz.underlying22 ji jz0 jz1 jz2 rfl (by decide) _ _ _ rfl (World.ownsRow_nil _ _ _ _) ⟨w10.heap.size, 0, none⟩ 1 1 [.string (pw 4)] rfl rfl (one_cell _ _ _) (by simp [Value.oneCell']) (by unfold maxLen; omega) (by omega) (by have := HX11.out.le; exact this) ?_; intro v' w7 hown7 hgrow _)
              have hr7 := (HRG9.out.kept (gq_ext (gq_refl w9 none) HW9.out) (by simp) (by simp)).kept hgrow (fun e => nomatch (show some _ = (none : Option Nat) from e)) (fun e => nomatch (show some _ = (none : Option Nat) from e))
              have hx7 : Ext w1 w7 := Ext.append HX11.out (World.ownsRow_nil _ w1.heap.size 9 1) hgrow (Nat.le_refl _)
              refine ⟨?_, by rw [hr7.left_eq]; exact HLT9.out⟩
              repeat apply Exists.intro
              exact ⟨⟨hx7, _, _, hr7, .inr ⟨HNO9.out, hown7⟩⟩, rfl⟩
end Go.Proofs.YtcnhlogkhnoacaaGreatDoor

namespace Go.Proofs.YtcnhlogkhnoacaaGreatDoor
open Go.RowKit Go.Cg Go.Shelf Go.Maps

theorem topA_ok : topA.Ok := by decide +kernel
theorem topA_of : ofE topA 97 = 0 ∧ ofE topA 98 = 0 ∧ ofE topA 99 = 0 := by decide +kernel

theorem own_cap {T B : Nat} {w : World} {rp : Option Addr} {rc : Nat} (h : OwnRunes T B w rp rc [97, 98, 97]) : 3 ≤ rc := by
  obtain ⟨⟨_, h⟩, _, _⟩ := h
  rcases h with ⟨h, h0⟩ | ⟨b, cap, cur, h, _, hb, hn, _, hs, ht⟩
  · simp at h0
  · simp only [Value.slice.injEq] at h
    rw [h.2.2]; exact hn

set_option maxRecDepth 100000 in
set_option maxHeartbeats 4000000 in
theorem tmakes_any (fp lp : Option Addr) (fc lc : Nat) (A : Alpha) (hok : A.Ok) (h97 : ofE A 97 = 0) (h98 : ofE A 98 = 0) (h99 : ofE A 99 = 0) (t i l r : Nat) (w : World) (hA : AlphaAt w fp lp A) (hR : TR w t i l r) (hT : Tabs w) :
    Calls Tryz.prog 59 #[.agg #[.slice fp A.feats.length fc, .slice lp A.lets.length lc], .agg #[.string ⟨#[]⟩, .slice (some ⟨t, 0, none⟩) 1 1, .slice (some ⟨i, 0, none⟩) 1 1, .slice (some ⟨l, 0, none⟩) 1 1, .slice (some ⟨r, 0, none⟩) 1 1, .int .u8 1, .bool false], .string ⟨#[97, 98, 97]⟩, .bool false] w fun e w' =>
      ∃ p c, e = .returned (.tuple #[.slice p 1 c, .int .i64 0]) ∧ (∃ B, p = some ⟨B, 0, none⟩ ∧ B < w'.heap.size ∧ w'.cell? ⟨B, 0, none⟩ = some (.string (pw 4))) ∧ Ext w w' := by
  obtain ⟨W1, hW1⟩ : ∃ W, w.alloc (.cells #[.slice fp A.feats.length fc, .slice lp A.lets.length lc] 25) = W := ⟨_, rfl⟩
  obtain ⟨W2, hW2⟩ : ∃ W, W1.alloc (.cells #[.string ⟨#[]⟩, .slice (some ⟨t, 0, none⟩) 1 1, .slice (some ⟨i, 0, none⟩) 1 1, .slice (some ⟨l, 0, none⟩) 1 1, .slice (some ⟨r, 0, none⟩) 1 1, .int .u8 1, .bool false] 83) = W := ⟨_, rfl⟩
  have hz1 : W1.heap.size = w.heap.size + 1 := by rw [← hW1, size_alloc]
  have hx1 : Ext w W1 := by rw [← hW1]; exact (Ext.refl _).alloc _
  have hx2 : Ext W1 W2 := by rw [← hW2]; exact (Ext.refl _).alloc _
  have HB := Lib.hid (fun W (hW : Ext W2 W) => (by
    have h := ext_cells rfl (W := W) (by rw [hW1]; exact hx2.trans hW : Ext (w.alloc (.cells #[.slice fp A.feats.length fc, .slice lp A.lets.length lc] 25)) W)
    have h2 := ext_cells hz1 (W := W) (by rw [hW2]; exact hW : Ext (W1.alloc (.cells #[.string ⟨#[]⟩, .slice (some ⟨t, 0, none⟩) 1 1, .slice (some ⟨i, 0, none⟩) 1 1, .slice (some ⟨l, 0, none⟩) 1 1, .slice (some ⟨r, 0, none⟩) 1 1, .int .u8 1, .bool false] 83)) W)
    exact ⟨h.1 0, h.1 1, h2.1 0, h2.1 1, h2.1 2, h2.1 3, h2.1 4, h2.1 5, h2.1 6, h2.2⟩ : W.cell? ⟨w.heap.size, 0, none⟩ = some (.slice fp A.feats.length fc) ∧ W.cell? ⟨w.heap.size, 1, none⟩ = some (.slice lp A.lets.length lc) ∧
      W.cell? ⟨w.heap.size + 1, 0, none⟩ = some (.string ⟨#[]⟩) ∧ W.cell? ⟨w.heap.size + 1, 1, none⟩ = some (.slice (some ⟨t, 0, none⟩) 1 1) ∧ W.cell? ⟨w.heap.size + 1, 2, none⟩ = some (.slice (some ⟨i, 0, none⟩) 1 1) ∧ W.cell? ⟨w.heap.size + 1, 3, none⟩ = some (.slice (some ⟨l, 0, none⟩) 1 1) ∧ W.cell? ⟨w.heap.size + 1, 4, none⟩ = some (.slice (some ⟨r, 0, none⟩) 1 1) ∧ W.cell? ⟨w.heap.size + 1, 5, none⟩ = some (.int .u8 1) ∧ W.cell? ⟨w.heap.size + 1, 6, none⟩ = some (.bool false) ∧ w.heap.size + 1 < W.heap.size))
  have HX := Lib.hid (fun W (hW : Ext W2 W) => (hx1.trans hx2).trans hW)
  have HCK := Lib.hid (tcheck_any fp lp fc lc A hok h98 h99 t i l r W2 (hA.mono (hx1.trans hx2)) (hR.ext (hx1.trans hx2)))
  have HRD := Lib.hid (fun W (hW : Ext W2 W) => tread_any fp lp fc lc A h97 h98 W (hA.mono ((hx1.trans hx2).trans hW)) (hT.ext ((hx1.trans hx2).trans hW)))
  have HRY := Lib.hid (fun W (hW : Ext W2 W) => tready_any fp lp fc lc A t i l r W (hA.mono ((hx1.trans hx2).trans hW)) (hR.ext ((hx1.trans hx2).trans hW)))
  have HR := Lib.hid (fun W (hW : Ext W2 W) => hR.ext ((hx1.trans hx2).trans hW))
  have HW1 := Lib.hid hW1
  have HW2 := Lib.hid hW2
  clear hW1 hW2 hx1 hx2 hA hR hT h97 h98 h99 hok hz1
  go_enter Tryz.func59, Tryz.ntmps59
  go_wp2_with fail
  rw [HW1.out, HW2.out]
  refine HCK.out.mono ?_
  rintro e w1 ⟨rfl, hx1⟩
  obtain ⟨a0, a1, r0, r1, r2, r3, r4, r5, r6, rl⟩ := HB.out _ hx1
  have HX1 := Lib.hid hx1
  clear hx1
  go_wp2_with fail
  refine (HRD.out _ HX1.out).mono ?_
  rintro e w2 ⟨rp, rc, rfl, hO, hx2⟩
  have hcap := own_cap hO
  obtain ⟨b, rfl, hL⟩ := LAt.of_own hO
  have hx := HX1.out.trans hx2
  clear a0 a1 r0 r1 r2 r3 r4 r5 r6 rl hO hx2
  obtain ⟨a0, a1, r0, r1, r2, r3, r4, r5, r6, rl⟩ := HB.out _ hx
  have HX2 := Lib.hid hx
  have HL := Lib.hid hL
  clear hx hL
  go_wp2_with fail
  refine (HRY.out _ HX2.out).mono ?_
  rintro e w3 ⟨g, rfl, hM, hx3⟩
  have HX3 := Lib.hid (HX2.out.trans hx3)
  have HRUN := Lib.hid (trun_any g b rc t i l r hcap w3 hM (HR.out _ (HX2.out.trans hx3)) (HL.out.ext hx3))
  clear a0 a1 r0 r1 r2 r3 r4 r5 r6 rl hM hx3
  go_wp2_with fail
  refine HRUN.out.mono ?_
  rintro e w4 ⟨p, c, rfl, hc, hx4⟩
  have HC := Lib.hid hc
  have HX4 := Lib.hid (HX.out _ (HX3.out.trans hx4))
  clear hc hx4
  go_wp2_with fail
  go_ret2
  exact ⟨p, c, rfl, HC.out, HX4.out⟩

set_option maxRecDepth 100000 in
set_option maxHeartbeats 4000000 in
theorem tapply_any (fp lp : Option Addr) (fc lc : Nat) (A : Alpha) (hok : A.Ok) (h97 : ofE A 97 = 0) (h98 : ofE A 98 = 0) (h99 : ofE A 99 = 0) (t i l r : Nat) (w : World) (hA : AlphaAt w fp lp A) (hR : TR w t i l r) (hT : Tabs w) :
    Calls Tryz.prog 28 #[.agg #[.slice fp A.feats.length fc, .slice lp A.lets.length lc], .agg #[.string ⟨#[]⟩, .slice (some ⟨t, 0, none⟩) 1 1, .slice (some ⟨i, 0, none⟩) 1 1, .slice (some ⟨l, 0, none⟩) 1 1, .slice (some ⟨r, 0, none⟩) 1 1, .int .u8 1, .bool false], .string ⟨#[97, 98, 97]⟩] w fun e w' => e = .returned (.tuple #[.string ⟨#[97, 99, 97]⟩, .int .i64 0]) ∧ Ext w w' := by
  obtain ⟨W1, hW1⟩ : ∃ W, w.alloc (.cells #[.slice fp A.feats.length fc, .slice lp A.lets.length lc] 25) = W := ⟨_, rfl⟩
  obtain ⟨W2, hW2⟩ : ∃ W, W1.alloc (.cells #[.string ⟨#[]⟩, .slice (some ⟨t, 0, none⟩) 1 1, .slice (some ⟨i, 0, none⟩) 1 1, .slice (some ⟨l, 0, none⟩) 1 1, .slice (some ⟨r, 0, none⟩) 1 1, .int .u8 1, .bool false] 83) = W := ⟨_, rfl⟩
  have hx1 : Ext w W1 := by rw [← hW1]; exact (Ext.refl _).alloc _
  have hx2 : Ext W1 W2 := by rw [← hW2]; exact (Ext.refl _).alloc _
  have HMK := Lib.hid (tmakes_any fp lp fc lc A hok h97 h98 h99 t i l r W2 (hA.mono (hx1.trans hx2)) (hR.ext (hx1.trans hx2)) (hT.ext (hx1.trans hx2)))
  have HX := Lib.hid (hx1.trans hx2)
  have HW1 := Lib.hid hW1
  have HW2 := Lib.hid hW2
  clear hW1 hW2 hx1 hx2 hA hR hT
  go_enter Tryz.func28, Tryz.ntmps28
  go_wp2_with fail
  rw [HW1.out, HW2.out]
  refine HMK.out.mono ?_
  rintro e w1 ⟨p, c, rfl, ⟨B, rfl, hB, hc⟩, hx1⟩
  rw [show pw 4 = ⟨#[97, 99, 97]⟩ from rfl] at hc
  have HXE := Lib.hid (HX.out.trans hx1)
  clear hx1
  go_wp2_with fail
  go_ret2
  exact ⟨rfl, HXE.out⟩

end Go.Proofs.YtcnhlogkhnoacaaGreatDoor

namespace Go.Proofs.YtcnhlogkhnoacaaGreatDoor
open Go.RowKit Go.Cg Go.Shelf Go.Maps

set_option maxRecDepth 100000 in
set_option maxHeartbeats 4000000 in
theorem turns_any (w : World) (hT : Tabs w) : Calls Tryz.prog 6 #[] w fun e w' => e = .returned (.bool true) ∧ Ext w w' := by
  obtain ⟨t, ht⟩ : ∃ t, w.heap.size = t := ⟨_, rfl⟩
  obtain ⟨W1, hW1⟩ : ∃ W, w.alloc (.cells #[.int .i32 98, .int .u32 0, .int .u32 0] 73) = W := ⟨_, rfl⟩
  obtain ⟨W2, hW2⟩ : ∃ W, W1.alloc (.cells #[.int .i32 99, .int .i64 0, .int .u32 0, .int .u32 0] 76) = W := ⟨_, rfl⟩
  have hz1 : W1.heap.size = t + 1 := by rw [← hW1, size_alloc, ht]
  have hx1 : Ext w W1 := by rw [← hW1]; exact (Ext.refl _).alloc _
  have hx2 : Ext W1 W2 := by rw [← hW2]; exact (Ext.refl _).alloc _
  have h1 := ext_cells ht (W := W2) (by rw [hW1]; exact hx2 : Ext (w.alloc (.cells #[.int .i32 98, .int .u32 0, .int .u32 0] 73)) W2)
  have h2 := ext_cells hz1 (W := W2) (by rw [hW2]; exact Ext.refl _ : Ext (W1.alloc (.cells #[.int .i32 99, .int .i64 0, .int .u32 0, .int .u32 0] 76)) W2)
  have HTR := Lib.hid (fun W l r (hW : Ext W2 W) (hl : NodeAt W l) (hr : NodeAt W r) => (⟨Nat.lt_of_lt_of_le h1.2 hW.le, (Below.cell hW (p := ⟨t, 0, none⟩) h1.2).trans (h1.1 0), (Below.cell hW (p := ⟨t, 1, none⟩) h1.2).trans (h1.1 1), (Below.cell hW (p := ⟨t, 2, none⟩) h1.2).trans (h1.1 2),
    Nat.lt_of_lt_of_le h2.2 hW.le, (Below.cell hW (p := ⟨t + 1, 0, none⟩) h2.2).trans (h2.1 0), (Below.cell hW (p := ⟨t + 1, 1, none⟩) h2.2).trans (h2.1 1), (Below.cell hW (p := ⟨t + 1, 2, none⟩) h2.2).trans (h2.1 2), (Below.cell hW (p := ⟨t + 1, 3, none⟩) h2.2).trans (h2.1 3), hl, hr⟩ : TR W t (t + 1) l r))
  have HX := Lib.hid (hx1.trans hx2)
  have HT := Lib.hid hT
  have HW1 := Lib.hid hW1
  have HW2 := Lib.hid hW2
  clear hW1 hW2 h1 h2 hx1 hx2 hz1 hT
  go_enter Tryz.func6, Tryz.ntmps6
  go_wp2_with fail
  rw [HW1.out, HW2.out]
  refine (nothing_any W2).mono ?_
  rintro e w3 ⟨l, rfl, hN3, hx3⟩
  have HX3 := Lib.hid hx3
  have HN3 := Lib.hid hN3
  clear hx3 hN3
  go_wp2_with fail
  refine (nothing_any w3).mono ?_
  rintro e w4 ⟨r, rfl, hN4, hx4⟩
  have htr := HTR.out _ l r (HX3.out.trans hx4) (HN3.out.ext hx4) hN4
  have hX4 := HX.out.trans (HX3.out.trans hx4)
  obtain ⟨B, hB⟩ : ∃ B, w4.heap.size = B := ⟨_, rfl⟩
  obtain ⟨W5, hW5⟩ : ∃ W, w4.alloc (.cells #[.string ⟨#[]⟩, .slice (some ⟨t, 0, none⟩) 1 1, .slice (some ⟨t + 1, 0, none⟩) 1 1, .slice (some ⟨l, 0, none⟩) 1 1, .slice (some ⟨r, 0, none⟩) 1 1, .int .u8 1, .bool false] 83) = W := ⟨_, rfl⟩
  have hx5 : Ext w4 W5 := by rw [← hW5]; exact (Ext.refl _).alloc _
  have HB5 := Lib.hid (fun W (hW : Ext W5 W) => (by
    have h := ext_cells hB (W := W) (by rw [hW5]; exact hW : Ext (w4.alloc (.cells #[.string ⟨#[]⟩, .slice (some ⟨t, 0, none⟩) 1 1, .slice (some ⟨t + 1, 0, none⟩) 1 1, .slice (some ⟨l, 0, none⟩) 1 1, .slice (some ⟨r, 0, none⟩) 1 1, .int .u8 1, .bool false] 83)) W)
    exact ⟨hW, h.1 0, h.1 1, h.1 2, h.1 3, h.1 4, h.1 5, h.1 6, h.2⟩ : Ext W5 W ∧ W.cell? ⟨B, 0, none⟩ = some (.string ⟨#[]⟩) ∧ W.cell? ⟨B, 1, none⟩ = some (.slice (some ⟨t, 0, none⟩) 1 1) ∧ W.cell? ⟨B, 2, none⟩ = some (.slice (some ⟨t + 1, 0, none⟩) 1 1) ∧ W.cell? ⟨B, 3, none⟩ = some (.slice (some ⟨l, 0, none⟩) 1 1) ∧ W.cell? ⟨B, 4, none⟩ = some (.slice (some ⟨r, 0, none⟩) 1 1) ∧ W.cell? ⟨B, 5, none⟩ = some (.int .u8 1) ∧ W.cell? ⟨B, 6, none⟩ = some (.bool false) ∧ B < W.heap.size))
  have HLE := Lib.hid (fun W => tletters_any W)
  have HAP := Lib.hid (fun fp lp fc lc W (hW : Ext W5 W) hA => tapply_any fp lp fc lc topA topA_ok topA_of.1 topA_of.2.1 topA_of.2.2 t (t + 1) l r W hA (htr.ext (hx5.trans hW)) (HT.out.ext (hX4.trans (hx5.trans hW))))
  have HX5 := Lib.hid (fun W (hW : Ext W5 W) => hX4.trans (hx5.trans hW))
  have HW5 := Lib.hid hW5
  clear hW5 hx5 hX4 htr hN4 hx4
  go_wp2_with fail
  rw [HW5.out]
  obtain ⟨_, b0, b1, b2, b3, b4, b5, b6, bl⟩ := HB5.out _ (Ext.refl _)
  go_region_held3 (fun W => Ext W5 W ∧ W.cell? ⟨B, 0, none⟩ = some (.string ⟨#[]⟩) ∧ W.cell? ⟨B, 1, none⟩ = some (.slice (some ⟨t, 0, none⟩) 1 1) ∧ W.cell? ⟨B, 2, none⟩ = some (.slice (some ⟨t + 1, 0, none⟩) 1 1) ∧ W.cell? ⟨B, 3, none⟩ = some (.slice (some ⟨l, 0, none⟩) 1 1) ∧ W.cell? ⟨B, 4, none⟩ = some (.slice (some ⟨r, 0, none⟩) 1 1) ∧ W.cell? ⟨B, 5, none⟩ = some (.int .u8 1) ∧ W.cell? ⟨B, 6, none⟩ = some (.bool false) ∧ B < W.heap.size) (exact HB5.out _ (by repeat (first | assumption | exact Ext.refl _ | refine Ext.drew ?_)))
    (first
      | (go_at_call 29; refine (HLE.out _).mono ?_; rintro e wc ⟨fp, lp, fc, lc, rfl, hcA, hcx⟩; have hEc : Ext W5 wc := Ext.trans (by repeat (first | assumption | exact Ext.refl _ | refine Ext.drew ?_)) hcx; clear hcx)
      | (go_at_call 28; refine (HAP.out _ _ _ _ _ (by repeat (first | assumption | exact Ext.refl _ | refine Ext.drew ?_)) (hcA.mono (by repeat (first | assumption | exact Ext.refl _ | refine Ext.drew ?_)))).mono ?_; rintro e wk ⟨rfl, hkx⟩; have hEk : Ext W5 wk := Ext.trans (by repeat (first | assumption | exact Ext.refl _ | refine Ext.drew ?_)) hkx; clear hkx hEc hcA))
  have h9 := HX5.out _ hEk
  go_wp2_with fail
  go_ret
  exact ⟨rfl, h9⟩
end Go.Proofs.YtcnhlogkhnoacaaGreatDoor
