/- The law FeatureNames holds (its walk). -/
import Derived.Test.YtnngljflnfjppaaDoorFelu
import Derived.Deep.CutRange
namespace Go.Proofs.YtnngljflnfjppaaDoor
open Go.RowKit Go.Cg Go.Shelf Go.Maps

set_option maxRecDepth 100000 in
set_option maxHeartbeats 8000000 in
theorem featureNames_any (w : World) : Calls Tryd.prog 3 #[] w fun e w' => e = .returned (.bool true) ∧ Ext w w' := by
  go_enter Tryd.func3, Tryd.ntmps3
  go_wp2_with fail
  refine (alive_any _).mono ?_
  rintro e w1 ⟨rfl, hk1⟩
  go_wp2_with fail
  refine (full_any 24 128 (by decide) (by decide) _).mono ?_
  rintro e w2 ⟨gp, mp, gc, mc, rfl, hB, hx2⟩
  have hk2 := (hk1.trans hx2).alloc (.cells #[.slice gp (fullA 24 128).feats.length gc, .slice mp (fullA 24 128).lets.length mc] 26)
  have hy2 := Ext.refl (w2.alloc (.cells #[.slice gp (fullA 24 128).feats.length gc, .slice mp (fullA 24 128).lets.length mc] 26))
  have hz2 : Ext w2 (w2.alloc (.cells #[.slice gp (fullA 24 128).feats.length gc, .slice mp (fullA 24 128).lets.length mc] 26)) := (Ext.refl _).alloc _
  go_wp2_with fail
  refine (check_any gp mp gc mc (fullA 24 128) _ (hB.mono hz2)).mono ?_
  rw [nv1]
  rintro e w3 ⟨rfl, hx3⟩
  have hk3 := hk2.trans hx3
  have hy3 := hy2.trans hx3
  have hz3 := hz2.trans hx3
  go_wp2_with fail
  refine (full_any 25 128 (by decide) (by decide) _).mono ?_
  rintro e w4 ⟨fp, lp, fc, lc, rfl, hA, hx⟩
  have hk4 := hk3.trans hx
  have hy4 := hy3.trans hx
  have hz4 := hz3.trans hx
  clear hx
  go_wp2_with fail
  refine (check_any fp lp fc lc (fullA 25 128) _ hA).mono ?_
  rw [nv2]
  rintro e w5 ⟨rfl, hx⟩
  have hk5 := hk4.trans hx
  have hy5 := hy4.trans hx
  have hz5 := hz4.trans hx
  clear hx hA
  go_wp2_with fail
  refine (full_any 24 129 (by decide) (by decide) _).mono ?_
  rintro e w6 ⟨fp, lp, fc, lc, rfl, hA, hx⟩
  have hk6 := hk5.trans hx
  have hy6 := hy5.trans hx
  have hz6 := hz5.trans hx
  clear hx
  go_wp2_with fail
  refine (check_any fp lp fc lc (fullA 24 129) _ hA).mono ?_
  rw [nv3]
  rintro e w7 ⟨rfl, hx⟩
  have hk7 := hk6.trans hx
  have hy7 := hy6.trans hx
  have hz7 := hz6.trans hx
  clear hx hA
  go_wp2_with fail
  refine (full_any 24 0 (by decide) (by decide) _).mono ?_
  rintro e w8 ⟨fp, lp, fc, lc, rfl, hA, hx⟩
  have hk8 := hk7.trans hx
  have hy8 := hy7.trans hx
  have hz8 := hz7.trans hx
  clear hx
  go_wp2_with fail
  refine (check_any fp lp fc lc (fullA 24 0) _ hA).mono ?_
  rw [nv4]
  rintro e w9 ⟨rfl, hx⟩
  have hk9 := hk8.trans hx
  have hy9 := hy8.trans hx
  have hz9 := hz8.trans hx
  clear hx hA
  go_wp2_with fail
  refine (full_any 0 1 (by decide) (by decide) _).mono ?_
  rintro e w10 ⟨fp, lp, fc, lc, rfl, hA, hx⟩
  have hk10 := hk9.trans hx
  have hy10 := hy9.trans hx
  have hz10 := hz9.trans hx
  clear hx
  go_wp2_with fail
  refine (check_any fp lp fc lc (fullA 0 1) _ hA).mono ?_
  rw [nv5]
  rintro e w11 ⟨rfl, hx⟩
  have hk11 := hk10.trans hx
  have hy11 := hy10.trans hx
  have hz11 := hz10.trans hx
  clear hx hA
  go_upto_region 7 with fail
  have d0 := hy11.cell0 0
  have d1 := hy11.cell0 1
  have dl := hy11.lt0
  simp at d0 d1
  go_cut [3, 4, 5] from 50 to 56 (fun _ _ e wx => e = .int .i64 4 ∧ Ext w11 wx)
  case first =>
    have mk := mk129
    go_region_with (go_at_call 11; refine (least_any gp mp (some ⟨w11.heap.size, 0, none⟩) gc mc 129 (fullA 24 128) (List.replicate 129 0) _ (hB.mono (hz11.trans (by repeat (first | assumption | exact Ext.refl _ | refine Ext.alloc ?_ _ | refine Ext.drew ?_ | refine Ext.drewN ?_ _ | refine Ext.setCell ?_ (by first | (simp; done) | (simp; omega) | omega) _ | (refine Ext.trans ?_ (by assumption)))))) ((zeros_at w11 129 _ (by decide)).mono (by repeat (first | assumption | exact Ext.refl _ | refine Ext.alloc ?_ _ | refine Ext.drew ?_ | refine Ext.drewN ?_ _ | refine Ext.setCell ?_ (by first | (simp; done) | (simp; omega) | omega) _ | (refine Ext.trans ?_ (by assumption)))))).mono ?_; rintro e w5 ⟨rfl, hx5⟩; rw [le129]; have hq5 : Ext w11 w5 := (by repeat (first | assumption | exact Ext.refl _ | refine Ext.alloc ?_ _ | refine Ext.drew ?_ | refine Ext.drewN ?_ _ | refine Ext.setCell ?_ (by first | (simp; done) | (simp; omega) | omega) _ | (refine Ext.trans ?_ (by assumption)))); clear hx5)
    all_goals (go_wp2_with fail; go_meet; exact ⟨rfl, hq5⟩)
  case rest =>
    obtain ⟨rfl, hxc⟩ := hcut
    have hk12 := hk11.trans hxc
    have hy12 := hy11.trans hxc
    have hz12 := hz11.trans hxc
    clear hxc d0 d1 dl hk11 hy11 hz11
    go_upto_region 8 with fail
    have d0 := hy12.cell0 0
    have d1 := hy12.cell0 1
    have dl := hy12.lt0
    simp at d0 d1
    go_cut [6, 7, 8] from 57 to 63 (fun _ _ e wx => e = .int .i64 5 ∧ Ext wc wx)
    case first =>
      have mk := mk128
      go_region_with (go_at_call 11; refine (least_any gp mp (some ⟨wc.heap.size, 0, none⟩) gc mc 128 (fullA 24 128) (List.replicate 128 0) _ (hB.mono (hz12.trans (by repeat (first | assumption | exact Ext.refl _ | refine Ext.alloc ?_ _ | refine Ext.drew ?_ | refine Ext.drewN ?_ _ | refine Ext.setCell ?_ (by first | (simp; done) | (simp; omega) | omega) _ | (refine Ext.trans ?_ (by assumption)))))) ((zeros_at wc 128 _ (by decide)).mono (by repeat (first | assumption | exact Ext.refl _ | refine Ext.alloc ?_ _ | refine Ext.drew ?_ | refine Ext.drewN ?_ _ | refine Ext.setCell ?_ (by first | (simp; done) | (simp; omega) | omega) _ | (refine Ext.trans ?_ (by assumption)))))).mono ?_; rintro e w5 ⟨rfl, hx5⟩; rw [le128]; have hq5 : Ext wc w5 := (by repeat (first | assumption | exact Ext.refl _ | refine Ext.alloc ?_ _ | refine Ext.drew ?_ | refine Ext.drewN ?_ _ | refine Ext.setCell ?_ (by first | (simp; done) | (simp; omega) | omega) _ | (refine Ext.trans ?_ (by assumption)))); clear hx5)
      all_goals (go_wp2_with fail; go_meet; exact ⟨rfl, hq5⟩)
    case rest =>
      obtain ⟨rfl, hxc⟩ := hcut
      have hk13 := hk12.trans hxc
      clear hxc d0 d1 dl hk12 hy12 hz12
      go_upto_region 11 with fail
      obtain ⟨W10, hW10⟩ : ∃ W10, (wc.alloc (.cells #[.int .i32 97, .int .i32 122, .int .i32 65, .int .i32 90, .int .i32 161, .int .i32 55295, .int .i32 57344, .int .i32 65532, .int .i32 65534, .int .i32 1114111] 21)).alloc (.cells #[.int .i32 0, .int .i32 32, .int .i32 48, .int .i32 95, .int .i32 64, .int .i32 91, .int .i32 96, .int .i32 123, .int .i32 160, .int .i32 127, .int .i32 55296, .int .i32 57343, .int .i32 65533, .int .i32 1114112, .int .i32 (-1)] 21) = W10 := ⟨_, rfl⟩
      have hkA : Ext w W10 := hW10 ▸ (hk13.alloc _).alloc _
      have hRm : RunesAt W10 (some ⟨wc.heap.size, 0, none⟩) mayL := hW10 ▸ runes_block (T := 21) ((Below.block ((Ext.refl (wc.alloc _)).alloc _) wc.heap.size (by simp)).trans (heap_alloc_new wc _)) (by decide) (by decide)
      have hRn : RunesAt W10 (some ⟨wc.heap.size + 1, 0, none⟩) notL := hW10 ▸ runes_block (T := 21) (by have := heap_alloc_new (wc.alloc (.cells #[.int .i32 97, .int .i32 122, .int .i32 65, .int .i32 90, .int .i32 161, .int .i32 55295, .int .i32 57344, .int .i32 65532, .int .i32 65534, .int .i32 1114111] 21)) (.cells (notL.map (Value.int .i32)).toArray 21 (0, 0)); rw [size_alloc] at this; exact this) (by decide) (by decide)
      rw [hW10]
      clear hW10
      go_wp2_with fail
      go_loopw [11] (fun i wr => ∃ k : Nat, k ≤ 10 ∧ i = .int .i64 k ∧ Ext W10 wr) (fun i _ => 10 - (intOf i).toNat)
      case atStart => exact ⟨0, by decide, rfl, Ext.refl _⟩
      case round =>
        obtain ⟨k, hk, rfl, hx⟩ := hrel
        by_cases hlt : k < 10
        · obtain ⟨b, off, e, hbw, hc⟩ := (hRm.mono hx).cells (i := k) hlt
          cases e
          have hN := mayN ⟨k, hlt⟩
          have hwf := hRm.wf k hlt
          obtain ⟨r, hr⟩ : ∃ r, rn mayL k = r := ⟨_, rfl⟩
          have hN2 : checkN ⟨[], [⟨r, 0, 0⟩]⟩ = 0 := hr ▸ hN
          rw [hr] at hc hwf
          rw [Nat.zero_add] at hc
          clear hr hN
          go_wp2_with fail
          refine (check_any none (some ⟨wr.heap.size, 0, none⟩) 0 1 ⟨[], [⟨r, 0, 0⟩]⟩ _ (one_let wr r _ hwf.1 hwf.2)).mono ?_
          rw [hN2]
          rintro e w5 ⟨rfl, hx5⟩
          go_wp2_with fail
          exact ⟨⟨k + 1, by omega, by go_num, (hx.alloc _).trans hx5⟩, by simp [intOf]; omega⟩
        · have hkf : k = 10 := by omega
          subst hkf
          rw [show ((10 : Nat) : Int) = (10 : Int) from rfl]
          have hkB : Ext w wr := hkA.trans hx
          have hRn2 := hRn.mono hx
          clear hRn hRm hkA hx
          go_wp2_with fail
          go_loopw [12] (fun i wq => ∃ k : Nat, k ≤ 15 ∧ i = .int .i64 k ∧ Ext wr wq) (fun i _ => 15 - (intOf i).toNat)
          case atStart => exact ⟨0, by decide, rfl, Ext.refl _⟩
          case round =>
            obtain ⟨k, hk, rfl, hx⟩ := hrel
            by_cases hlt : k < 15
            · obtain ⟨b, off, e, hbw, hc⟩ := (hRn2.mono hx).cells (i := k) hlt
              cases e
              have hN := notN ⟨k, hlt⟩
              have hwf := hRn2.wf k hlt
              obtain ⟨r, hr⟩ : ∃ r, rn notL k = r := ⟨_, rfl⟩
              have hN2 : checkN ⟨[], [⟨r, 0, 0⟩]⟩ = 7 := hr ▸ hN
              rw [hr] at hc hwf
              rw [Nat.zero_add] at hc
              clear hr hN
              go_wp2_with fail
              refine (check_any none (some ⟨wr.heap.size, 0, none⟩) 0 1 ⟨[], [⟨r, 0, 0⟩]⟩ _ (one_let wr r _ hwf.1 hwf.2)).mono ?_
              rw [hN2]
              rintro e w5 ⟨rfl, hx5⟩
              go_wp2_with fail
              exact ⟨⟨k + 1, by omega, by go_num, (hx.alloc _).trans hx5⟩, by simp [intOf]; omega⟩
            · have hkf : k = 15 := by omega
              subst hkf
              rw [show ((15 : Nat) : Int) = (15 : Int) from rfl]
              have hkC : Ext w wr := hkB.trans hx
              clear hRn2 hkB hx hB
              obtain ⟨wb, rfl⟩ : ∃ wb : World, wb = wr := ⟨_, rfl⟩
              have mk := mk33
              go_upto_region 23 with fail
              clear mk
              go_loopw [14] (fun i wq => ∃ k : Nat, k ≤ 33 ∧ i = .int .i64 k ∧ Fill wb.heap.size 5 wq k ∧ Ext wb wq) (fun i _ => 33 - (intOf i).toNat)
              case atStart => exact ⟨0, by decide, rfl, Fill.start wb _ _, (Ext.refl _).alloc _⟩
              case round =>
                obtain ⟨k, hk, rfl, hF, hx⟩ := hrel
                by_cases hlt : k < 33
                · obtain ⟨v, c0, f0, hBl⟩ := hF.cell hlt
                  go_wp2_with fail
                  exact ⟨⟨k + 1, by omega, by go_num, hF.set hlt, hx.setCell (Nat.le_refl _) _⟩, by simp [intOf]; omega⟩
                · have hkf : k = 33 := by omega
                  subst hkf
                  rw [show ((33 : Nat) : Int) = (33 : Int) from rfl]
                  have hkD : Ext w wr := hkC.trans hx
                  clear hkC hx
                  go_upto_region 27 with fail
                  have hF1 := hF.ext ((Ext.refl wr).alloc (.cells #[.int .i32 97, .int .u32 0, .int .u32 0] 35))
                  have hl1 : (wr.alloc (.cells #[.int .i32 97, .int .u32 0, .int .u32 0] 35)).heap[wr.heap.size]? = some (.cells (letRow aL).toArray 35 (0, 0)) := heap_alloc_new wr _
                  have hkE := hkD.alloc (.cells #[.int .i32 97, .int .u32 0, .int .u32 0] 35)
                  obtain ⟨W1, hW1⟩ : ∃ W1, wr.alloc (.cells #[.int .i32 97, .int .u32 0, .int .u32 0] 35) = W1 := ⟨_, rfl⟩
                  rw [hW1] at hF1 hl1 hkE ⊢
                  obtain ⟨lb, hlb⟩ : ∃ lb, wr.heap.size = lb := ⟨_, rfl⟩
                  rw [hlb] at hl1 ⊢
                  obtain ⟨bb, hbb⟩ : ∃ bb, wb.heap.size = bb := ⟨_, rfl⟩
                  rw [hbb] at hF1 ⊢
                  clear hW1 hlb hbb hF hkD
                  have hlw := (Array.getElem?_eq_some_iff.1 hl1).1
                  have hcv := hF1.text 32 33 (by decide)
                  go_wp2_with fail
                  refine (check_any (some ⟨W1.heap.size, 0, none⟩) (some ⟨lb, 0, none⟩) 2 1 ⟨[xsB 32, ⟨#[121]⟩], aL⟩ _ (alpha_two (heap_alloc_new W1 _) ((Below.block ((Ext.refl W1).alloc _) lb hlw).trans hl1) (by decide) (by decide) (by decide) (by decide +kernel))).mono ?_
                  rw [goodN]
                  rintro e w5 ⟨rfl, hx5⟩
                  have hx6 : Ext W1 w5 := ((Ext.refl W1).alloc _).trans hx5
                  have hF5 := hF1.ext hx6
                  have hl5 := (Below.block hx6 lb hlw).trans hl1
                  have hk5 := hkE.trans hx6
                  have hcv2 := hF5.text 33 33 (by decide)
                  clear hcv hF1 hl1 hkE hx5 hx6 hlw
                  go_upto_region 29 with fail
                  have hlw := (Array.getElem?_eq_some_iff.1 hl5).1
                  have hn6 : (w5.alloc (.cells #[.string (xsB 33), .string ⟨#[]⟩, .string ⟨#[65]⟩, .string ⟨#[97, 49]⟩, .string ⟨#[195, 169]⟩, .string ⟨#[97, 32, 98]⟩] 9)).heap[w5.heap.size]? = some (.cells (badL.map Value.string).toArray 9 (0, 0)) := heap_alloc_new w5 _
                  have hl6 := (Below.block ((Ext.refl w5).alloc (.cells #[.string (xsB 33), .string ⟨#[]⟩, .string ⟨#[65]⟩, .string ⟨#[97, 49]⟩, .string ⟨#[195, 169]⟩, .string ⟨#[97, 32, 98]⟩] 9)) lb hlw).trans hl5
                  have hk6 := hk5.alloc (.cells #[.string (xsB 33), .string ⟨#[]⟩, .string ⟨#[65]⟩, .string ⟨#[97, 49]⟩, .string ⟨#[195, 169]⟩, .string ⟨#[97, 32, 98]⟩] 9)
                  obtain ⟨W6, hW6⟩ : ∃ W6, w5.alloc (.cells #[.string (xsB 33), .string ⟨#[]⟩, .string ⟨#[65]⟩, .string ⟨#[97, 49]⟩, .string ⟨#[195, 169]⟩, .string ⟨#[97, 32, 98]⟩] 9) = W6 := ⟨_, rfl⟩
                  rw [hW6] at hn6 hl6 hk6 ⊢
                  obtain ⟨nb, hnb⟩ : ∃ nb, w5.heap.size = nb := ⟨_, rfl⟩
                  rw [hnb] at hn6 ⊢
                  clear hW6 hnb hF5 hcv2 hl5 hk5 hlw
                  go_wp2_with fail
                  go_loopw [18] (fun i wq => ∃ k : Nat, k ≤ 6 ∧ i = .int .i64 k ∧ Ext W6 wq) (fun i _ => 6 - (intOf i).toNat)
                  case atStart => exact ⟨0, by decide, rfl, Ext.refl _⟩
                  case round =>
                    obtain ⟨k, hk, rfl, hx⟩ := hrel
                    have hlw := (Array.getElem?_eq_some_iff.1 hl6).1
                    have hnw := (Array.getElem?_eq_some_iff.1 hn6).1
                    have hln := (Below.block hx lb hlw).trans hl6
                    by_cases hlt : k < 6
                    · have hnn := (Below.block hx nb hnw).trans hn6
                      have hbad : checkN ⟨[badL.getD k ByteArray.empty], aL⟩ = 7 := badN ⟨k, hlt⟩
                      go_wp2_with fail
                      refine (check_any (some ⟨nb, k, none⟩) (some ⟨lb, 0, none⟩) (6 - k) 1 ⟨[badL.getD k ByteArray.empty], aL⟩ _ (alpha_nth hnn hln (by decide) (by decide) (by decide +kernel) hlt)).mono ?_
                      rw [hbad]
                      rintro e w7 ⟨rfl, hx7⟩
                      go_wp2_with fail
                      exact ⟨⟨k + 1, by omega, by go_num, hx.trans hx7⟩, by simp [intOf]; omega⟩
                    · have hkf : k = 6 := by omega
                      subst hkf
                      rw [show ((6 : Nat) : Int) = (6 : Int) from rfl]
                      have hk7 := hk6.trans hx
                      have hlw2 := (Array.getElem?_eq_some_iff.1 hln).1
                      clear hk6 hx hn6 hl6 hlw hnw
                      go_wp2_with fail
                      refine (check_any (some ⟨wr.heap.size, 0, none⟩) (some ⟨lb, 0, none⟩) 2 1 ⟨[⟨#[120]⟩, ⟨#[120]⟩], aL⟩ _ (alpha_two (heap_alloc_new wr _) ((Below.block ((Ext.refl wr).alloc _) lb hlw2).trans hln) (by decide) (by decide) (by decide) (by decide +kernel))).mono ?_
                      rw [twiceN]
                      rintro e w7 ⟨rfl, hx7⟩
                      have hk8 : Ext w w7 := (hk7.alloc _).trans hx7
                      clear hk7 hx7 hln hlw2
                      go_wp2_with fail
                      refine (check_any none (some ⟨w7.heap.size, 0, none⟩) 0 2 ⟨[], [⟨97, 0, 0⟩, ⟨97, 0, 0⟩]⟩ _ (alpha_lets (L := [⟨97, 0, 0⟩, ⟨97, 0, 0⟩]) (heap_alloc_new w7 _) (by decide) (by decide))).mono ?_
                      rw [bothN]
                      rintro e w8 ⟨rfl, hx8⟩
                      have hk9 : Ext w w8 := (hk8.alloc _).trans hx8
                      clear hk8 hx8
                      go_wp2_with fail
                      refine (check_any (some ⟨w8.heap.size, 0, none⟩) (some ⟨w8.heap.size + 1, 0, none⟩) 1 1 ⟨[⟨#[120]⟩], [⟨97, 1, 1⟩]⟩ _ (alpha_two (heap_alloc2_old w8 _ _) (heap_alloc2_new w8 _ _) (by decide) (by decide) (by decide) (by decide +kernel))).mono ?_
                      rw [onePM]
                      rintro e w9 ⟨rfl, hx9⟩
                      have hka : Ext w w9 := ((hk9.alloc _).alloc _).trans hx9
                      clear hk9 hx9
                      go_wp2_with fail
                      refine (check_any (some ⟨w9.heap.size, 0, none⟩) (some ⟨w9.heap.size + 1, 0, none⟩) 1 1 ⟨[⟨#[120]⟩], [⟨97, 2, 0⟩]⟩ _ (alpha_two (heap_alloc2_old w9 _ _) (heap_alloc2_new w9 _ _) (by decide) (by decide) (by decide) (by decide +kernel))).mono ?_
                      rw [twoP]
                      rintro e wz ⟨rfl, hxz⟩
                      have hkz : Ext w wz := ((hka.alloc _).alloc _).trans hxz
                      clear hka hxz
                      go_wp2_with fail
                      go_ret
                      exact ⟨rfl, hkz⟩
end Go.Proofs.YtnngljflnfjppaaDoor
