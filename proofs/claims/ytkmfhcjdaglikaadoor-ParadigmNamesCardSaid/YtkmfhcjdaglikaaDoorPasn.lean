/- The law ParadigmNames, walked: the numbers; cells, affixes, letters, names at their ends; affixes that may not be; what is refused, in its order. -/
import Derived.Test.YtkmfhcjdaglikaaDoorPasl
import Derived.Deep.RegionHeld3
namespace Go.Proofs.YtkmfhcjdaglikaaDoor
open Go.RowKit Go.Cg Go.Shelf Go.Maps

theorem cells_lit (n m : Nat) (hn : n ≤ 1000) (hm : m ≤ 60) (a b : Int) (ha : (n : Int) = a) (hb : (m : Int) = b) (W : World) : Calls Tryd.prog 11 #[.int .i64 a, .int .i64 b] W fun e w' => CellsRes n m e w' ∧ Ext W w' := by
  subst ha; subst hb
  exact cells17_any n m hn hm W
theorem row_lit (n : Nat) (hn : n ≤ 1000) (a : Int) (ha : (n : Int) = a) (K : ByteArray) (hK : kB n = K) (W : World) : Calls Tryd.prog 12 #[.int .i64 a] W fun e w' => e = .returned (.string K) ∧ Ext W w' := by
  subst ha; subst hK
  exact row17_any n hn W

theorem cells_int (a b : Int) (W : World) (ha : 0 ≤ a) (ha2 : a ≤ 1000) (hb : 0 ≤ b) (hb2 : b ≤ 60) : Calls Tryd.prog 11 #[.int .i64 a, .int .i64 b] W fun e w' => CellsRes a.toNat b.toNat e w' ∧ Ext W w' :=
  cells_lit a.toNat b.toNat (by omega) (by omega) a b (by omega) (by omega) W
theorem pck_any9 (fp ap : Option Addr) (fc ac : Nat) (n m : Nat) (p : Option Addr) (c : Nat) (g : Nat → Option Addr × Nat) (W : World) (hA : AlphaAt W fp ap samA) (hT : Tabs W) (hP : CellsAt W p (celN n m) g) :
    Calls Tryd.prog 10 #[.agg #[.slice fp 1 fc, .slice ap 5 ac], .agg #[.string t_p1, .slice p n c]] W fun e w' => e = .returned (.int .i64 (parE samA ⟨t_p1, celN n m⟩)) ∧ Ext W w' :=
  pck_lit fp ap fc ac t_p1 (by decide) n m _ rfl p c g W hA hT hP

set_option maxRecDepth 100000 in
theorem wr_arr (K : ByteArray) (j : Nat) : #[Value.int .u8 0, .string ⟨#[]⟩, .string ⟨#[]⟩, .int .i64 0, Value.int .u8 7, .string ⟨#[]⟩, .string ⟨#[]⟩, .int .i64 0, Value.int .u8 1, .string ⟨#[]⟩, .string ⟨#[97]⟩, .int .i64 0, Value.int .u8 2, .string ⟨#[]⟩, .string ⟨#[]⟩, .int .i64 1, Value.int .u8 2, .string ⟨#[120]⟩, .string ⟨#[]⟩, .int .i64 0, Value.int .u8 3, .string ⟨#[97]⟩, .string ⟨#[120]⟩, .int .i64 0, Value.int .u8 3, .string ⟨#[]⟩, .string ⟨#[]⟩, .int .i64 1, Value.int .u8 4, .string ⟨#[97]⟩, .string ⟨#[]⟩, .int .i64 65, Value.int .u8 4, .string ⟨#[97]⟩, .string ⟨#[]⟩, .int .i64 (-1), Value.int .u8 4, .string ⟨#[97]⟩, .string ⟨#[97]⟩, .int .i64 0, Value.int .u8 5, .string ⟨#[120]⟩, .string ⟨#[]⟩, .int .i64 0, Value.int .u8 5, .string ⟨#[97]⟩, .string ⟨#[]⟩, .int .i64 1, Value.int .u8 5, .string ⟨#[]⟩, .string ⟨#[97]⟩, .int .i64 0, Value.int .u8 6, .string ⟨#[97]⟩, .string ⟨#[]⟩, .int .i64 0, Value.int .u8 6, .string ⟨#[]⟩, .string ⟨#[]⟩, .int .i64 65, Value.int .u8 6, .string ⟨#[]⟩, .string ⟨#[]⟩, .int .i64 (-1), Value.int .u8 6, .string ⟨#[]⟩, .string ⟨#[97]⟩, .int .i64 0, Value.int .u8 1, .string K, .string ⟨#[]⟩, .int .i64 0, Value.int .u8 1, .string ⟨#[95]⟩, .string ⟨#[]⟩, .int .i64 0][j]? = (affList (wrL K))[j]? := by
  have h : #[Value.int .u8 0, .string ⟨#[]⟩, .string ⟨#[]⟩, .int .i64 0, Value.int .u8 7, .string ⟨#[]⟩, .string ⟨#[]⟩, .int .i64 0, Value.int .u8 1, .string ⟨#[]⟩, .string ⟨#[97]⟩, .int .i64 0, Value.int .u8 2, .string ⟨#[]⟩, .string ⟨#[]⟩, .int .i64 1, Value.int .u8 2, .string ⟨#[120]⟩, .string ⟨#[]⟩, .int .i64 0, Value.int .u8 3, .string ⟨#[97]⟩, .string ⟨#[120]⟩, .int .i64 0, Value.int .u8 3, .string ⟨#[]⟩, .string ⟨#[]⟩, .int .i64 1, Value.int .u8 4, .string ⟨#[97]⟩, .string ⟨#[]⟩, .int .i64 65, Value.int .u8 4, .string ⟨#[97]⟩, .string ⟨#[]⟩, .int .i64 (-1), Value.int .u8 4, .string ⟨#[97]⟩, .string ⟨#[97]⟩, .int .i64 0, Value.int .u8 5, .string ⟨#[120]⟩, .string ⟨#[]⟩, .int .i64 0, Value.int .u8 5, .string ⟨#[97]⟩, .string ⟨#[]⟩, .int .i64 1, Value.int .u8 5, .string ⟨#[]⟩, .string ⟨#[97]⟩, .int .i64 0, Value.int .u8 6, .string ⟨#[97]⟩, .string ⟨#[]⟩, .int .i64 0, Value.int .u8 6, .string ⟨#[]⟩, .string ⟨#[]⟩, .int .i64 65, Value.int .u8 6, .string ⟨#[]⟩, .string ⟨#[]⟩, .int .i64 (-1), Value.int .u8 6, .string ⟨#[]⟩, .string ⟨#[97]⟩, .int .i64 0, Value.int .u8 1, .string K, .string ⟨#[]⟩, .int .i64 0, Value.int .u8 1, .string ⟨#[95]⟩, .string ⟨#[]⟩, .int .i64 0] = (affList (wrL K)).toArray := by kernel_rfl
  rw [h, List.getElem?_toArray]

set_option maxRecDepth 100000 in
set_option maxHeartbeats 4000000 in
theorem paradigmNames_any (w : World) (hT : Tabs w) : Calls Tryd.prog 3 #[] w fun e w' => e = .returned (.bool true) ∧ Ext w w' := by
  obtain ⟨K33, hK33⟩ : ∃ K, kB 33 = K := ⟨_, rfl⟩
  obtain ⟨K64, hK64⟩ : ∃ K, kB 64 = K := ⟨_, rfl⟩
  obtain ⟨K65, hK65⟩ : ∃ K, kB 65 = K := ⟨_, rfl⟩
  obtain ⟨K256, hK256⟩ : ∃ K, kB 256 = K := ⟨_, rfl⟩
  have HK33 := Lib.hid hK33
  have HK64 := Lib.hid hK64
  have HK65 := Lib.hid hK65
  have HK256 := Lib.hid hK256
  have HAL := Lib.hid (fun W (h : Tabs W) => alive17_any W h)
  have HT0 := Lib.hid hT
  clear hT hK33 hK64 hK65 hK256
  go_enter Tryd.func3, Tryd.ntmps3
  go_wp2_with fail
  refine (HAL.out _ HT0.out).mono ?_
  rintro e w0 ⟨rfl, hx0⟩
  go_wp2_with fail
  refine (sample17_any _).mono ?_
  rintro e w1 ⟨fp, ap, fc, ac, rfl, hA, hx1⟩
  rw [show samA.feats.length = 1 from rfl, show samA.lets.length = 5 from rfl]
  obtain ⟨B, hB⟩ : ∃ B, w1.heap.size = B := ⟨_, rfl⟩
  obtain ⟨W2, hW2⟩ : ∃ W2, w1.alloc (.cells #[.slice fp 1 fc, .slice ap 5 ac] 26) = W2 := ⟨_, rfl⟩
  have z2 : W2.heap.size = B + 1 := by rw [← hW2, size_alloc, hB]
  have hx2 : Ext w1 W2 := by rw [← hW2]; exact (Ext.refl _).alloc _
  have hb2 : ∀ W, Ext W2 W → W.cell? ⟨B, 0, none⟩ = some (.slice fp 1 fc) ∧ W.cell? ⟨B, 1, none⟩ = some (.slice ap 5 ac) ∧ B < W.heap.size := fun W hW => by
    rw [← hW2] at hW
    have c0 := hW.cell0 0
    have c1 := hW.cell0 1
    have l0 := hW.lt0
    rw [hB] at c0 c1 l0
    exact ⟨c0, c1, l0⟩
  have HB := Lib.hid hb2
  have hw2 := hx0.trans (hx1.trans hx2)
  have hA2 := hA.mono hx2
  have hT2 := HT0.out.ext hw2
  have HT := Lib.hid (fun W (hW : Ext W2 W) => hT2.ext hW)
  have HA := Lib.hid (fun W (hW : Ext W2 W) => hA2.mono hW)
  have HW2 := Lib.hid hw2
  have HR33 := Lib.hid (fun W => row_lit 33 (by decide) 33 rfl K33 HK33.out W)
  have HR64 := Lib.hid (fun W => row_lit 64 (by decide) 64 rfl K64 HK64.out W)
  have HR256 := Lib.hid (fun W => row_lit 256 (by decide) 256 rfl K256 HK256.out W)
  have HR65 := Lib.hid (fun W => row_lit 65 (by decide) 65 rfl K65 HK65.out W)
  have HNB := Lib.hid (fun i (hi : i < 5) => (by rw [← HK33.out]; exact nm_bad ⟨i, hi⟩ : nmB (nmF K33 i) = false ∧ (nmF K33 i).size ≤ 140737488351232))
  have HPN := Lib.hid (fun i (hi : i < 5) p c g W (hW : Ext W2 W) hP => pck_lit fp ap fc ac (nmF K33 i) (HNB.out i hi).2 1 0 170 (parE_nm samA_ok9 (HNB.out i hi).1) p c g W (hA2.mono hW) (hT2.ext hW) hP)
  have HWP := Lib.hid (fun i (hi : i < 19) W (hW : Ext W2 W) => wr_put fp ap fc ac K65 HK65.out i hi W (hA2.mono hW) (hT2.ext hW))
  have HWO := Lib.hid (fun i (hi : i < 19) W (hW : Ext W2 W) => wr_off fp ap fc ac K65 HK65.out i hi W (hA2.mono hW) (hT2.ext hW))
  have HC := Lib.hid (fun a b W ha ha2 hb hb2 => cells_int a b W ha ha2 hb hb2)
  have HQ := Lib.hid (fun n m p c g W (hW : Ext W2 W) hP => pck_any9 fp ap fc ac n m p c g W (hA2.mono hW) (hT2.ext hW) hP)
  clear hb2 hw2 hA2 hT2 hA hx0 hx1 hx2
  obtain ⟨a0, a1, a2⟩ := HB.out _ (Ext.refl _)
  go_wp2_with fail
  clear hW2
  have HS4 := Lib.hid (fun W (hW : Ext W2 W) => (⟨hW, (HB.out _ hW).1, (HB.out _ hW).2.1⟩ : Ext W2 W ∧ W.cell? ⟨B, 0, none⟩ = some (.slice fp 1 fc) ∧ W.cell? ⟨B, 1, none⟩ = some (.slice ap 5 ac)))
  go_region_held3 (fun W => Ext W2 W ∧ W.cell? ⟨B, 0, none⟩ = some (.slice fp 1 fc) ∧ W.cell? ⟨B, 1, none⟩ = some (.slice ap 5 ac)) (exact HS4.out _ (by repeat (first | assumption | exact Ext.refl _ | refine Ext.drew ?_)))
    (first
      | (go_at_call 11; refine (HC.out _ _ _ (by decide) (by decide) (by decide) (by decide)).mono ?_; rintro e wc ⟨hcr, hcx⟩; simp only [Int.reduceToNat] at hcr; obtain ⟨cp, cc, cg, rfl, hca⟩ := hcr; have hEc : Ext W2 wc := Ext.trans (by repeat (first | assumption | exact Ext.refl _ | refine Ext.drew ?_)) hcx; clear hcx)
      | (go_at_call 10; refine (HQ.out _ _ _ _ _ _ (by repeat (first | assumption | exact Ext.refl _ | refine Ext.drew ?_)) (hca.mono (by repeat (first | assumption | exact Ext.refl _ | refine Ext.drew ?_)))).mono ?_; rintro e wk ⟨rfl, hkx⟩; have hEk : Ext W2 wk := Ext.trans (by repeat (first | assumption | exact Ext.refl _ | refine Ext.drew ?_)) hkx; (first | rw [par_1] | rw [par_2] | rw [par_3] | rw [par_4]); clear hkx hEc hca))
  have h1 : Ext W2 wk := hEk
  clear hEk
  go_wp2_with fail
  refine (HR33.out _).mono ?_
  rintro e v2 ⟨rfl, hy2⟩
  have h2 := h1.trans hy2
  clear h1 hy2
  obtain ⟨D, hD⟩ : ∃ D, v2.heap.size = D := ⟨_, rfl⟩
  obtain ⟨W3, hW3⟩ : ∃ W3, v2.alloc (.cells #[.string ⟨#[65]⟩, .string ⟨#[97, 32, 98]⟩, .string ⟨#[195, 169]⟩, .string ⟨#[97, 95]⟩, .string K33] 9) = W3 := ⟨_, rfl⟩
  have hx3 : Ext W2 W3 := by rw [← hW3]; exact h2.alloc _
  have HN := Lib.hid (fun W (hW : Ext W3 W) => (by
    rw [← hW3] at hW
    have l0 := hW.lt0
    rw [hD] at l0
    refine ⟨l0, fun j hj => ?_⟩
    have c0 := hW.cell0 j
    rw [hD] at c0
    rw [c0]; exact nm_cells K33 j hj : D < W.heap.size ∧ ∀ j, j < 5 → W.cell? ⟨D, j, none⟩ = some (.string (nmF K33 j))))
  have HX3 := Lib.hid hx3
  go_wp2_with fail
  clear hW3 hD h2 hx3
  go_loopw [4] (fun i wr => ∃ k : Nat, k ≤ 5 ∧ i = .int .i64 k ∧ Ext W3 wr) (fun i _ => 5 - (intOf i).toNat)
  case atStart => exact ⟨0, by decide, rfl, Ext.refl _⟩
  case round =>
    obtain ⟨k, hk, rfl, hx⟩ := hrel
    by_cases hlt : k < 5
    · go_wp2_with fail
      refine (HC.out 1 0 _ (by decide) (by decide) (by decide) (by decide)).mono ?_
      rintro e wc ⟨hcr, hcx⟩
      simp only [Int.reduceToNat] at hcr
      obtain ⟨cp, cc, cg, rfl, hca⟩ := hcr
      have hxc := hx.trans hcx
      have hxd := hxc.alloc (.cells #[.string t_p1, .slice cp 1 cc] 32)
      have hxe := hxc.alloc (.cells #[.string (nmF K33 k), .slice cp 1 cc] 32)
      have m0 := (HN.out _ hxd).2 k hlt
      have ml := (HN.out _ hxd).1
      obtain ⟨a0, a1, a2⟩ := HB.out _ (HX3.out.trans hxe)
      have HXE := Lib.hid hxe
      have HP9 := Lib.hid (HPN.out k hlt cp cc cg _ (HX3.out.trans hxe) (hca.mono ((Ext.refl _).alloc _)))
      clear hxd hxe hca
      go_wp2_with fail
      refine HP9.out.mono ?_
      rintro e wk ⟨rfl, hkx⟩
      go_wp2_with fail
      exact ⟨⟨k + 1, by omega, by go_num, HXE.out.trans hkx⟩, by simp [intOf]; omega⟩
    · obtain rfl : k = 5 := by omega
      have h3 := HX3.out.trans hx
      generalize wr = v3 at *
      go_wp2_with fail
      refine (HR65.out _).mono ?_
      rintro e v4 ⟨rfl, hy4⟩
      have h4 := h3.trans hy4
      clear h3 hy4 hx
      obtain ⟨D4, hD⟩ : ∃ D, v4.heap.size = D := ⟨_, rfl⟩
      obtain ⟨W4, hW4⟩ : ∃ W, v4.alloc (.cells #[Value.int .u8 0, .string ⟨#[]⟩, .string ⟨#[]⟩, .int .i64 0, Value.int .u8 7, .string ⟨#[]⟩, .string ⟨#[]⟩, .int .i64 0, Value.int .u8 1, .string ⟨#[]⟩, .string ⟨#[97]⟩, .int .i64 0, Value.int .u8 2, .string ⟨#[]⟩, .string ⟨#[]⟩, .int .i64 1, Value.int .u8 2, .string ⟨#[120]⟩, .string ⟨#[]⟩, .int .i64 0, Value.int .u8 3, .string ⟨#[97]⟩, .string ⟨#[120]⟩, .int .i64 0, Value.int .u8 3, .string ⟨#[]⟩, .string ⟨#[]⟩, .int .i64 1, Value.int .u8 4, .string ⟨#[97]⟩, .string ⟨#[]⟩, .int .i64 65, Value.int .u8 4, .string ⟨#[97]⟩, .string ⟨#[]⟩, .int .i64 (-1), Value.int .u8 4, .string ⟨#[97]⟩, .string ⟨#[97]⟩, .int .i64 0, Value.int .u8 5, .string ⟨#[120]⟩, .string ⟨#[]⟩, .int .i64 0, Value.int .u8 5, .string ⟨#[97]⟩, .string ⟨#[]⟩, .int .i64 1, Value.int .u8 5, .string ⟨#[]⟩, .string ⟨#[97]⟩, .int .i64 0, Value.int .u8 6, .string ⟨#[97]⟩, .string ⟨#[]⟩, .int .i64 0, Value.int .u8 6, .string ⟨#[]⟩, .string ⟨#[]⟩, .int .i64 65, Value.int .u8 6, .string ⟨#[]⟩, .string ⟨#[]⟩, .int .i64 (-1), Value.int .u8 6, .string ⟨#[]⟩, .string ⟨#[97]⟩, .int .i64 0, Value.int .u8 1, .string K65, .string ⟨#[]⟩, .int .i64 0, Value.int .u8 1, .string ⟨#[95]⟩, .string ⟨#[]⟩, .int .i64 0] 36) = W := ⟨_, rfl⟩
      have hx4 : Ext W2 W4 := by rw [← hW4]; exact h4.alloc _
      have HWA := Lib.hid (fun W (hW : Ext W4 W) => (wr_affs HK65.out (by rw [← hW4] at hW; have l0 := hW.lt0; rw [hD] at l0; exact l0) (fun j => by
        rw [← hW4] at hW
        have c0 := hW.cell0 j
        rw [hD] at c0
        rw [c0]; exact wr_arr K65 j) : AffsAt W (some ⟨D4, 0, none⟩) (wrL K65)))
      have HX4 := Lib.hid hx4
      go_wp2_with fail
      clear hW4 hD h4 hx4
      go_loopw [7] (fun i wr => ∃ k : Nat, k ≤ 19 ∧ i = .int .i64 k ∧ Ext W4 wr) (fun i _ => 19 - (intOf i).toNat)
      case atStart => exact ⟨0, by decide, rfl, Ext.refl _⟩
      case round =>
        obtain ⟨k, hk, rfl, hx⟩ := hrel
        by_cases hlt : k < 19
        · obtain ⟨b, off, hp, hbl, c0, c1, c2, c3⟩ := (HWA.out _ hx).cells (i := k) hlt
          cases hp
          simp only [Nat.zero_add] at c0 c1 c2 c3
          have HS5 := Lib.hid (fun W (hW : Ext wr W) => (⟨hW, (HB.out _ (HX4.out.trans (hx.trans hW))).1, (HB.out _ (HX4.out.trans (hx.trans hW))).2.1, (hW.facts.1 _ _ hbl).trans c0, (hW.facts.1 _ _ hbl).trans c1, (hW.facts.1 _ _ hbl).trans c2, (hW.facts.1 _ _ hbl).trans c3⟩ : Ext wr W ∧ W.cell? ⟨B, 0, none⟩ = some (.slice fp 1 fc) ∧ W.cell? ⟨B, 1, none⟩ = some (.slice ap 5 ac) ∧ W.cell? ⟨D4, k * 4, none⟩ = some (.int .u8 ((ax (wrL K65) k).kind : Int)) ∧ W.cell? ⟨D4, k * 4 + 1, none⟩ = some (.string (ax (wrL K65) k).form) ∧ W.cell? ⟨D4, k * 4 + 2, none⟩ = some (.string (ax (wrL K65) k).other) ∧ W.cell? ⟨D4, k * 4 + 3, none⟩ = some (.int .i64 (ax (wrL K65) k).pos)))
          have HXR := Lib.hid (HX4.out.trans hx)
          have gk0 : (0 : Int) ≤ (k : Int) := by omega
          have gk1 : (k : Int) < 19 := by omega
          go_wp2_with fail
          go_region_held3 (fun W => Ext wr W ∧ W.cell? ⟨B, 0, none⟩ = some (.slice fp 1 fc) ∧ W.cell? ⟨B, 1, none⟩ = some (.slice ap 5 ac) ∧ W.cell? ⟨D4, k * 4, none⟩ = some (.int .u8 ((ax (wrL K65) k).kind : Int)) ∧ W.cell? ⟨D4, k * 4 + 1, none⟩ = some (.string (ax (wrL K65) k).form) ∧ W.cell? ⟨D4, k * 4 + 2, none⟩ = some (.string (ax (wrL K65) k).other) ∧ W.cell? ⟨D4, k * 4 + 3, none⟩ = some (.int .i64 (ax (wrL K65) k).pos)) (exact HS5.out _ (by repeat (first | assumption | exact Ext.refl _ | refine Ext.drew ?_)))
            (first
              | (go_at_call 13; refine (HWP.out k hlt _ (HXR.out.trans (by repeat (first | assumption | exact Ext.refl _ | refine Ext.drew ?_)))).mono ?_; rintro e w8 ⟨rfl, hkx⟩; have hE8 : Ext wr w8 := Ext.trans (by repeat (first | assumption | exact Ext.refl _ | refine Ext.drew ?_)) hkx; clear hkx))
          go_wp2_with fail
          go_region_held3 (fun W => Ext wr W ∧ W.cell? ⟨B, 0, none⟩ = some (.slice fp 1 fc) ∧ W.cell? ⟨B, 1, none⟩ = some (.slice ap 5 ac) ∧ W.cell? ⟨D4, k * 4, none⟩ = some (.int .u8 ((ax (wrL K65) k).kind : Int)) ∧ W.cell? ⟨D4, k * 4 + 1, none⟩ = some (.string (ax (wrL K65) k).form) ∧ W.cell? ⟨D4, k * 4 + 2, none⟩ = some (.string (ax (wrL K65) k).other) ∧ W.cell? ⟨D4, k * 4 + 3, none⟩ = some (.int .i64 (ax (wrL K65) k).pos)) (exact HS5.out _ (by repeat (first | assumption | exact Ext.refl _ | refine Ext.drew ?_)))
            (first
              | (go_at_call 14; refine (HWO.out k hlt _ (HXR.out.trans (by repeat (first | assumption | exact Ext.refl _ | refine Ext.drew ?_)))).mono ?_; rintro e w9 ⟨⟨op, oc, rfl⟩, hkx⟩; have hE9 : Ext wr w9 := Ext.trans (by repeat (first | assumption | exact Ext.refl _ | refine Ext.drew ?_)) hkx; clear hkx))
          go_wp2_with fail
          exact ⟨⟨k + 1, by omega, by go_num, hx.trans hE9⟩, by simp [intOf]; omega⟩
        · obtain rfl : k = 19 := by omega
          have h5 := HX4.out.trans hx
          generalize wr = v5 at *
          clear hx
          obtain ⟨E, hE⟩ : ∃ E, v5.heap.size = E := ⟨_, rfl⟩
          obtain ⟨W6, hW6⟩ : ∃ W, v5.alloc (.cells #[Value.int .u8 6, .string ⟨#[]⟩, .string ⟨#[]⟩, .int .i64 0, .int .u8 6, .string ⟨#[]⟩, .string ⟨#[]⟩, .int .i64 0] 36) = W := ⟨_, rfl⟩
          have z6 : W6.heap.size = E + 1 := by rw [← hW6, size_alloc, hE]
          have hx6 : Ext v5 W6 := by rw [← hW6]; exact (Ext.refl _).alloc _
          have hb6 : ∀ W, Ext W6 W → ∀ j, W.cell? ⟨E, j, none⟩ = #[Value.int .u8 6, .string ⟨#[]⟩, .string ⟨#[]⟩, .int .i64 0, .int .u8 6, .string ⟨#[]⟩, .string ⟨#[]⟩, .int .i64 0][j]? := fun W hW j => by
            rw [← hW6] at hW
            have c0 := hW.cell0 j
            rw [hE] at c0
            exact c0
          obtain ⟨W7, hW7⟩ : ∃ W, W6.alloc (.cells #[Value.int .u8 6, .string ⟨#[]⟩, .string ⟨#[]⟩, .int .i64 0, .int .u8 6, .string ⟨#[]⟩, .string ⟨#[]⟩, .int .i64 0, .int .u8 2, .string ⟨#[97]⟩, .string ⟨#[]⟩, .int .i64 0] 36) = W := ⟨_, rfl⟩
          have z7 : W7.heap.size = E + 1 + 1 := by rw [← hW7, size_alloc, z6]
          have hx7 : Ext W6 W7 := by rw [← hW7]; exact (Ext.refl _).alloc _
          have hb7 : ∀ W, Ext W7 W → ∀ j, W.cell? ⟨E + 1, j, none⟩ = #[Value.int .u8 6, .string ⟨#[]⟩, .string ⟨#[]⟩, .int .i64 0, .int .u8 6, .string ⟨#[]⟩, .string ⟨#[]⟩, .int .i64 0, .int .u8 2, .string ⟨#[97]⟩, .string ⟨#[]⟩, .int .i64 0][j]? := fun W hW j => by
            rw [← hW7] at hW
            have c0 := hW.cell0 j
            rw [z6] at c0
            exact c0
          obtain ⟨W8, hW8⟩ : ∃ W, W7.alloc (.cells #[Value.int .u64 0, .slice (some ⟨E, 0, none⟩) 2 2, .int .u64 0, .slice (some ⟨E + 1, 0, none⟩) 3 3] 45) = W := ⟨_, rfl⟩
          have z8 : W8.heap.size = E + 1 + 1 + 1 := by rw [← hW8, size_alloc, z7]
          have hx8 : Ext W7 W8 := by rw [← hW8]; exact (Ext.refl _).alloc _
          have hb8 : ∀ W, Ext W8 W → ∀ j, W.cell? ⟨E + 1 + 1, j, none⟩ = #[Value.int .u64 0, .slice (some ⟨E, 0, none⟩) 2 2, .int .u64 0, .slice (some ⟨E + 1, 0, none⟩) 3 3][j]? := fun W hW j => by
            rw [← hW8] at hW
            have c0 := hW.cell0 j
            rw [z7] at c0
            exact c0
          obtain ⟨W9, hW9⟩ : ∃ W, W8.alloc (.cells #[.string ⟨#[]⟩, .slice (some ⟨E + 1 + 1, 0, none⟩) 2 2] 32) = W := ⟨_, rfl⟩
          have hx9 : Ext W8 W9 := by rw [← hW9]; exact (Ext.refl _).alloc _
          have hb9 : ∀ W, Ext W9 W → W.cell? ⟨E + 1 + 1 + 1, 0, none⟩ = some (.string ⟨#[]⟩) ∧ W.cell? ⟨E + 1 + 1 + 1, 1, none⟩ = some (.slice (some ⟨E + 1 + 1, 0, none⟩) 2 2) := fun W hW => by
            rw [← hW9] at hW
            have c0 := hW.cell0 0
            have c1 := hW.cell0 1
            rw [z8] at c0 c1
            exact ⟨c0, c1⟩
          have z9 : W9.heap.size = E + 1 + 1 + 1 + 1 := by rw [← hW9, size_alloc, z8]
          have hP9 : CellsAt W9 (some ⟨E + 1 + 1, 0, none⟩) lonP.cells (lonG E) := lonP_at (hb6 W9 (hx7.trans (hx8.trans hx9))) (hb7 W9 (hx8.trans hx9)) (hb8 W9 hx9) (by omega)
          have h9 : Ext W2 W9 := h5.trans (hx6.trans (hx7.trans (hx8.trans hx9)))
          have HX9 := Lib.hid h9
          have HS9 := Lib.hid (fun W (hW : Ext W9 W) => (⟨hW, (HB.out _ (h9.trans hW)).1, (HB.out _ (h9.trans hW)).2.1, hb9 W hW⟩ : Ext W9 W ∧ W.cell? ⟨B, 0, none⟩ = some (.slice fp 1 fc) ∧ W.cell? ⟨B, 1, none⟩ = some (.slice ap 5 ac) ∧ W.cell? ⟨E + 1 + 1 + 1, 0, none⟩ = some (.string ⟨#[]⟩) ∧ W.cell? ⟨E + 1 + 1 + 1, 1, none⟩ = some (.slice (some ⟨E + 1 + 1, 0, none⟩) 2 2)))
          have HF1 := Lib.hid (fun W (hW : Ext W9 W) => lon_form fp ap fc ac 0 (by decide) (by decide) K64 (by rw [← HK64.out, kB_size]; decide) 0 K256 (by rw [← HK64.out]; exact pn_1) (by rw [← HK64.out, ← HK256.out]; exact pn_1s) E W (HA.out _ (h9.trans hW)) (HT.out _ (h9.trans hW)) (hP9.mono hW))
          have HF2 := Lib.hid (fun W (hW : Ext W9 W) => lon_form fp ap fc ac 1 (by decide) (by decide) K64 (by rw [← HK64.out, kB_size]; decide) 9 ⟨#[]⟩ (by rw [← HK64.out]; exact pn_2) (by rw [← HK64.out]; exact form_err pn_2 (by decide)) E W (HA.out _ (h9.trans hW)) (HT.out _ (h9.trans hW)) (hP9.mono hW))
          have HF3 := Lib.hid (fun W (hW : Ext W9 W) => lon_form fp ap fc ac 0 (by decide) (by decide) K65 (by rw [← HK65.out, kB_size]; decide) 4 ⟨#[]⟩ (by rw [← HK65.out]; exact pn_3) (by rw [← HK65.out]; exact form_err pn_3 (by decide)) E W (HA.out _ (h9.trans hW)) (HT.out _ (h9.trans hW)) (hP9.mono hW))
          have HF4 := Lib.hid (fun W (hW : Ext W9 W) => lon_form fp ap fc ac 2 (by decide) (by decide) K65 (by rw [← HK65.out, kB_size]; decide) 8 ⟨#[]⟩ (by rw [← HK65.out]; exact pn_4) (by rw [← HK65.out]; exact form_err pn_4 (by decide)) E W (HA.out _ (h9.trans hW)) (HT.out _ (h9.trans hW)) (hP9.mono hW))
          have HF5 := Lib.hid (fun W (hW : Ext W9 W) => no_form fp ap fc ac 2 (by decide) 0 (by decide) (by decide) 20 pn_5 (by decide) W (HA.out _ (h9.trans hW)) (HT.out _ (h9.trans hW)))
          have HF6 := Lib.hid (fun W (hW : Ext W9 W) => no_form fp ap fc ac 1 (by decide) 9 (by decide) (by decide) 170 pn_6 (by decide) W (HA.out _ (h9.trans hW)) (HT.out _ (h9.trans hW)))
          have HF7 := Lib.hid (fun W (hW : Ext W9 W) => pn7_any W (HT.out _ (h9.trans hW)))
          have HF8 := Lib.hid (fun W (hW : Ext W9 W) => pn8_any fp ap fc ac W (HA.out _ (h9.trans hW)) (HT.out _ (h9.trans hW)))
          have HF9 := Lib.hid (fun W (hW : Ext W9 W) => pn9_any fp ap fc ac E W (HA.out _ (h9.trans hW)) (HT.out _ (h9.trans hW)) (hP9.mono hW))
          have HF10 := Lib.hid (fun W (hW : Ext W9 W) => pn10_any fp ap fc ac W (HA.out _ (h9.trans hW)) (HT.out _ (h9.trans hW)))
          clear hb6 hb7 hb8 hb9 hx6 hx7 hx8 hx9 z9 hP9 h9 h5
          go_wp2_with fail
          clear hW6 hW7 hW8 hW9 z6 z7 z8 hE
          go_region_held3 (fun W => Ext W9 W ∧ W.cell? ⟨B, 0, none⟩ = some (.slice fp 1 fc) ∧ W.cell? ⟨B, 1, none⟩ = some (.slice ap 5 ac) ∧ W.cell? ⟨E + 1 + 1 + 1, 0, none⟩ = some (.string ⟨#[]⟩) ∧ W.cell? ⟨E + 1 + 1 + 1, 1, none⟩ = some (.slice (some ⟨E + 1 + 1, 0, none⟩) 2 2)) (exact HS9.out _ (by repeat (first | assumption | exact Ext.refl _ | refine Ext.drew ?_)))
            (first
              | (go_at_call 12; refine (HR64.out _).mono ?_; rintro e r1 ⟨rfl, hkx⟩; have hR1 : Ext W9 r1 := Ext.trans (by repeat (first | assumption | exact Ext.refl _ | refine Ext.drew ?_)) hkx; clear hkx)
              | (go_at_call 15; refine (HF1.out _ (by repeat (first | assumption | exact Ext.refl _ | refine Ext.drew ?_))).mono ?_; rintro e f1 ⟨rfl, hkx⟩; have hF1 : Ext W9 f1 := Ext.trans (by repeat (first | assumption | exact Ext.refl _ | refine Ext.drew ?_)) hkx; clear hkx hR1))
          go_wp2_with fail
          go_region_held3 (fun W => Ext W9 W ∧ W.cell? ⟨B, 0, none⟩ = some (.slice fp 1 fc) ∧ W.cell? ⟨B, 1, none⟩ = some (.slice ap 5 ac) ∧ W.cell? ⟨E + 1 + 1 + 1, 0, none⟩ = some (.string ⟨#[]⟩) ∧ W.cell? ⟨E + 1 + 1 + 1, 1, none⟩ = some (.slice (some ⟨E + 1 + 1, 0, none⟩) 2 2)) (exact HS9.out _ (by repeat (first | assumption | exact Ext.refl _ | refine Ext.drew ?_)))
            (first
              | (go_at_call 12; refine (HR64.out _).mono ?_; rintro e r2 ⟨rfl, hkx⟩; have hR2 : Ext W9 r2 := Ext.trans (by repeat (first | assumption | exact Ext.refl _ | refine Ext.drew ?_)) hkx; clear hkx)
              | (go_at_call 15; refine (HF2.out _ (by repeat (first | assumption | exact Ext.refl _ | refine Ext.drew ?_))).mono ?_; rintro e f2 ⟨rfl, hkx⟩; have hF2 : Ext W9 f2 := Ext.trans (by repeat (first | assumption | exact Ext.refl _ | refine Ext.drew ?_)) hkx; clear hkx hR2))
          go_wp2_with fail
          go_region_held3 (fun W => Ext W9 W ∧ W.cell? ⟨B, 0, none⟩ = some (.slice fp 1 fc) ∧ W.cell? ⟨B, 1, none⟩ = some (.slice ap 5 ac) ∧ W.cell? ⟨E + 1 + 1 + 1, 0, none⟩ = some (.string ⟨#[]⟩) ∧ W.cell? ⟨E + 1 + 1 + 1, 1, none⟩ = some (.slice (some ⟨E + 1 + 1, 0, none⟩) 2 2)) (exact HS9.out _ (by repeat (first | assumption | exact Ext.refl _ | refine Ext.drew ?_)))
            (first
              | (go_at_call 12; refine (HR65.out _).mono ?_; rintro e r3 ⟨rfl, hkx⟩; have hR3 : Ext W9 r3 := Ext.trans (by repeat (first | assumption | exact Ext.refl _ | refine Ext.drew ?_)) hkx; clear hkx)
              | (go_at_call 15; refine (HF3.out _ (by repeat (first | assumption | exact Ext.refl _ | refine Ext.drew ?_))).mono ?_; rintro e f3 ⟨rfl, hkx⟩; have hF3 : Ext W9 f3 := Ext.trans (by repeat (first | assumption | exact Ext.refl _ | refine Ext.drew ?_)) hkx; clear hkx hR3))
          go_wp2_with fail
          go_region_held3 (fun W => Ext W9 W ∧ W.cell? ⟨B, 0, none⟩ = some (.slice fp 1 fc) ∧ W.cell? ⟨B, 1, none⟩ = some (.slice ap 5 ac) ∧ W.cell? ⟨E + 1 + 1 + 1, 0, none⟩ = some (.string ⟨#[]⟩) ∧ W.cell? ⟨E + 1 + 1 + 1, 1, none⟩ = some (.slice (some ⟨E + 1 + 1, 0, none⟩) 2 2)) (exact HS9.out _ (by repeat (first | assumption | exact Ext.refl _ | refine Ext.drew ?_)))
            (first
              | (go_at_call 12; refine (HR65.out _).mono ?_; rintro e r4 ⟨rfl, hkx⟩; have hR4 : Ext W9 r4 := Ext.trans (by repeat (first | assumption | exact Ext.refl _ | refine Ext.drew ?_)) hkx; clear hkx)
              | (go_at_call 15; refine (HF4.out _ (by repeat (first | assumption | exact Ext.refl _ | refine Ext.drew ?_))).mono ?_; rintro e f4 ⟨rfl, hkx⟩; have hF4 : Ext W9 f4 := Ext.trans (by repeat (first | assumption | exact Ext.refl _ | refine Ext.drew ?_)) hkx; clear hkx hR4))
          obtain ⟨-, a0, a1, a2, a3⟩ := HS9.out _ hF4
          go_wp2_with fail
          refine (HF5.out _ hF4).mono ?_
          rintro e f5 ⟨rfl, hkx⟩
          have hF5 : Ext W9 f5 := hF4.trans hkx
          clear hkx
          obtain ⟨-, a0, a1, a2, a3⟩ := HS9.out _ hF5
          go_wp2_with fail
          refine (HF6.out _ hF5).mono ?_
          rintro e f6 ⟨rfl, hkx⟩
          have hF6 : Ext W9 f6 := hF5.trans hkx
          clear hkx
          obtain ⟨-, a0, a1, a2, a3⟩ := HS9.out _ hF6
          go_wp2_with fail
          refine (HF7.out _ hF6).mono ?_
          rintro e f7 ⟨rfl, hkx⟩
          have hF7 : Ext W9 f7 := hF6.trans hkx
          clear hkx
          obtain ⟨-, a0, a1, a2, a3⟩ := HS9.out _ hF7
          go_wp2_with fail
          refine (HF8.out _ hF7).mono ?_
          rintro e f8 ⟨rfl, hkx⟩
          have hF8 : Ext W9 f8 := hF7.trans hkx
          clear hkx
          obtain ⟨-, a0, a1, a2, a3⟩ := HS9.out _ hF8
          go_wp2_with fail
          refine (HF9.out _ hF8).mono ?_
          rintro e f9 ⟨⟨op9, oc9, rfl⟩, hkx⟩
          have hF9 : Ext W9 f9 := hF8.trans hkx
          clear hkx
          obtain ⟨-, a0, a1, a2, a3⟩ := HS9.out _ hF9
          go_wp2_with fail
          refine (HF10.out _ hF9).mono ?_
          rintro e f10 ⟨rfl, hkx⟩
          have hF10 : Ext W9 f10 := hF9.trans hkx
          clear hkx
          obtain ⟨-, a0, a1, a2, a3⟩ := HS9.out _ hF10
          go_wp2_with fail
          refine (HR256.out _).mono ?_
          rintro e f11 ⟨rfl, hkx⟩
          go_wp2_with fail
          go_ret
          exact ⟨rfl, HW2.out.trans (HX9.out.trans (hF10.trans hkx))⟩
end Go.Proofs.YtkmfhcjdaglikaaDoor
