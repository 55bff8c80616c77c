/- Contract: cognateref01.At (printed by mkat.py). -/
import Derived.Test.YtcnhlogkhnoacaaGreatDoorRadq
namespace Go.Proofs.YtcnhlogkhnoacaaGreatDoor
open Go.RowKit Go.Cg Go.Shelf Go.Maps

set_option maxRecDepth 100000 in
set_option maxHeartbeats 8000000 in
theorem At_any (s : ByteArray) (pos : Nat) (hp : pos < s.size) (hs : s.size ≤ 140737488351232) (w : World) :
    Calls Tryz.prog 68 #[.string s, .int .i64 (pos : Int)] w fun e w' => e = .returned (pieceV s pos) ∧ Ext w w' := by
  have hb0 := bt_lt s pos
  have hbt := bt_eq hp
  obtain ⟨B0, hB0⟩ : ∃ B0, (s[pos]'hp).toNat = B0 := ⟨_, rfl⟩
  by_cases c1 : bt s pos < 128
  · rw [piece_ascii hp c1, hbt]
    rw [hbt] at c1
    clear hbt hb0 hB0
    go_enter Tryz.func68, Tryz.ntmps68
    go_wp2_with fail
    refine bodyPost_ret (results_cell_row rfl _ _ w.heap.size 59 #[.int .i32 ((s[pos]'hp).toNat : Nat), .int .i64 (pos : Int), .int .i64 1, .bool false] (0, 0) _ rfl (heap_alloc_new w _) Tryz.underlying59 rfl (by kernel_rfl)) rfl ⟨rfl, ?_⟩
    exact (Ext.refl _).alloc _
  · by_cases c2 : bt s pos < 192 ∨ 248 ≤ bt s pos
    · rw [piece_bad (dec_none (by omega) c2)]
      rw [hbt] at c1 c2 hb0
      clear hbt hB0
      rcases c2 with c2 | c2
      all_goals
        go_enter Tryz.func68, Tryz.ntmps68
        go_wp2_with fail
        refine bodyPost_ret (results_cell_row rfl _ _ w.heap.size 59 #[.int .i32 65533, .int .i64 (pos : Int), .int .i64 1, .bool true] (0, 0) _ rfl (heap_alloc2_old w _ _) Tryz.underlying59 rfl (by kernel_rfl)) rfl ⟨rfl, ?_⟩
        exact ((Ext.refl _).alloc _).alloc _
    · by_cases c3 : bt s pos < 224
      · have hd := dec2 (s := s) (pos := pos) ⟨by omega, by omega⟩
        have hres : pieceV s pos = .agg #[.int .i32 (pv s pos 192 1 : Nat), .int .i64 (pos : Int), .int .i64 2, .bool false] ∨ pieceV s pos = .agg #[.int .i32 65533, .int .i64 (pos : Int), .int .i64 1, .bool true] := by
          by_cases hc : pos + 2 ≤ s.size ∧ contB s pos 2 ∧ 128 ≤ pv s pos 192 1 ∧ Utf8.valid (pv s pos 192 1 : Nat) = true
          · exact .inl (piece_good (hd.1 hc) (by decide))
          · exact .inr (piece_bad (hd.2 hc))
        have hgood := fun h => piece_good (hd.1 h) (by decide : 2 ≠ 1)
        have hbad := fun h => piece_bad (hd.2 h)
        have h31 : bt s pos - 192 ≤ 31 := by omega
        have hpv := fun d hc => pv_le (s := s) (pos := pos) (base := 192) h31 (d := d) hc
        have hv0 : pv s pos 192 0 = (s[pos]'hp).toNat - 192 := by rw [← hbt]; rfl
        rw [hbt] at c1 c2 hb0 c3
        obtain ⟨PV, hPV⟩ : ∃ PV, pieceV s pos = PV := ⟨_, rfl⟩
        rw [hPV] at hgood hbad ⊢
        have HG := Lib.hid hgood
        have HB := Lib.hid hbad
        have HPV := Lib.hid hpv
        have HV0 := Lib.hid hv0
        clear hd hres hgood hbad hpv hv0 hPV hbt hB0 h31
        by_cases hl : pos + 2 ≤ s.size
        · go_enter Tryz.func68, Tryz.ntmps68
          go_upto_region 19 with fail
          have hz1 := heap_alloc2_old w (.cells #[.int .i32 0, .int .i64 0, .int .i64 0, .bool false] 59) (.cells #[.int .i32 65533, .int .i64 (pos : Int), .int .i64 1, .bool true] 59)
          have hz2 := heap_alloc2_new w (.cells #[.int .i32 0, .int .i64 0, .int .i64 0, .bool false] 59) (.cells #[.int .i32 65533, .int .i64 (pos : Int), .int .i64 1, .bool true] 59)
          have hx0 : Ext w ((w.alloc (.cells #[.int .i32 0, .int .i64 0, .int .i64 0, .bool false] 59)).alloc (.cells #[.int .i32 65533, .int .i64 (pos : Int), .int .i64 1, .bool true] 59)) := ((Ext.refl _).alloc _).alloc _
          have hsz0 : ((w.alloc (.cells #[.int .i32 0, .int .i64 0, .int .i64 0, .bool false] 59)).alloc (.cells #[.int .i32 65533, .int .i64 (pos : Int), .int .i64 1, .bool true] 59)).heap.size = w.heap.size + 1 + 1 := by rw [size_alloc, size_alloc]
          obtain ⟨W0, hW0⟩ : ∃ W0, (w.alloc (.cells #[.int .i32 0, .int .i64 0, .int .i64 0, .bool false] 59)).alloc (.cells #[.int .i32 65533, .int .i64 (pos : Int), .int .i64 1, .bool true] 59) = W0 := ⟨_, rfl⟩
          rw [hW0] at hz1 hz2 hx0 hsz0 ⊢
          clear hW0
          have W0z := fun W (hW : Ext W0 W) => (Below.block hW _ (by omega : w.heap.size < W0.heap.size)).trans hz1
          have W0b := fun W (hW : Ext W0 W) => (Below.block hW _ (by omega : w.heap.size + 1 < W0.heap.size)).trans hz2
          have HZ := Lib.hid W0z
          have HZ2 := Lib.hid W0b
          clear W0z W0b
          have gd : decide (((s[pos]'hp).toNat : Int) < 224) = true := decide_eq_true (by omega)
          simp only [gd]
          clear gd
          go_loopw [7, 9] (fun r i wr => ∃ d : Nat, d + 1 ≤ 2 ∧ i = .int .i64 ((d + 1 : Nat) : Int) ∧ r = .int .i32 ((pv s pos 192 d : Nat) : Int) ∧ Hid (contB s pos (d + 1)) ∧ Ext W0 wr) (fun _ i _ => 2 - (intOf i).toNat)
          case atStart => exact ⟨0, by omega, rfl, by rw [HV0.out]; go_num, fun j h1 h2 => by omega, Ext.refl _⟩
          case round =>
            obtain ⟨d, hd, rfl, rfl, hc, hx⟩ := hrel
            obtain ⟨hp1, hp2⟩ := HPV.out d hc.out
            have hle := hx.le
            by_cases hlt : d + 1 < 2
            · have hq : pos + (d + 1) < s.size := by omega
              have hbq := bt_eq hq
              have hbl := bt_lt s (pos + (d + 1))
              have hpd := hp2 (by omega)
              have hta := fun W => tail01_any (bt s (pos + (d + 1))) hbl W
              by_cases ht : 128 ≤ bt s (pos + (d + 1)) ∧ bt s (pos + (d + 1)) < 192
              · rw [decide_eq_true ht, hbq] at hta
                have hst : pv s pos 192 (d + 1) = 64 * pv s pos 192 d + (bt s (pos + (d + 1)) - 128) := rfl
                have hcc : contB s pos (d + 1 + 1) := fun j h1 h2 => by
                  rcases Nat.lt_or_eq_of_le (Nat.le_of_lt_succ h2) with h3 | h3
                  · exact hc.out j h1 h3
                  · rw [h3]; exact ht
                rw [hbq] at hst ht
                have HTA := Lib.hid hta
                have HST := Lib.hid hst
                have HCC := Lib.hid hcc
                clear hta hst hcc hbq hbl hp1 hp2 hc
                go_wp2_with (go_at_call 102; refine (HTA.out _).mono ?_; rintro e w2 ⟨rfl, rfl⟩)
                refine ⟨⟨d + 1, by omega, by go_num, by rw [HST.out]; go_num, HCC, hx⟩, by simp [intOf]; omega⟩
              · rw [decide_eq_false ht, hbq] at hta
                have hpb := HB.out (fun h => ht (h.2.1 (d + 1) (by omega) (by omega)))
                subst hpb
                have HTA := Lib.hid hta
                clear hta hbq hbl hp1 hp2 hc
                obtain ⟨b0, b1, b2, b3, lb⟩ := four_cells (HZ2.out _ hx)
                obtain ⟨z0, z1, z2, z3, lz⟩ := four_cells (HZ.out _ hx)
                have hblk := Lib.hid (HZ.out _ hx)
                have f0 := four_froz hblk.out 0
                have f1 := four_froz hblk.out 1
                have f2 := four_froz hblk.out 2
                have f3 := four_froz hblk.out 3
                go_wp2_with (go_at_call 102; refine (HTA.out _).mono ?_; rintro e w2 ⟨rfl, rfl⟩)
                refine bodyPost_ret (results_cell_row rfl _ _ w.heap.size 59 #[.int .i32 65533, .int .i64 (pos : Int), .int .i64 1, .bool true] (0, 0) _ rfl (set_four hblk.out) Tryz.underlying59 rfl (by kernel_rfl)) rfl ⟨rfl, ?_⟩
                exact ((((hx0.trans hx).setCell (p := ⟨w.heap.size, 0, none⟩) (Nat.le_refl _) _).setCell (p := ⟨w.heap.size, 1, none⟩) (Nat.le_refl _) _).setCell (p := ⟨w.heap.size, 2, none⟩) (Nat.le_refl _) _).setCell (p := ⟨w.heap.size, 3, none⟩) (Nat.le_refl _) _
            · obtain rfl : d = 1 := (by omega)
              have hir : ((pv s pos 192 1 : Nat) : Int) < 2147483648 := by omega
              have hru := fun W => Rune01_any ((pv s pos 192 1 : Nat) : Int) (by omega) (by omega) W
              obtain ⟨V, hV⟩ : ∃ V, pv s pos 192 1 = V := ⟨_, rfl⟩
              rw [hV] at hru hp1 hp2 HG HB ⊢
              obtain ⟨U, hU⟩ : ∃ U, Utf8.valid (V : Int) = U := ⟨_, rfl⟩
              rw [hU] at hru HG HB
              have HRU := Lib.hid hru
              clear hru hV hU hir
              obtain ⟨b0, b1, b2, b3, lb⟩ := four_cells (HZ2.out _ hx)
              obtain ⟨z0, z1, z2, z3, lz⟩ := four_cells (HZ.out _ hx)
              have hblk := Lib.hid (HZ.out _ hx)
              have f0 := four_froz hblk.out 0
              have f1 := four_froz hblk.out 1
              have f2 := four_froz hblk.out 2
              have f3 := four_froz hblk.out 3
              by_cases hmin : V < 128
              · have hpb := HB.out (fun h => by omega)
                subst hpb
                clear HG HB
                go_wp2_with fail
                refine bodyPost_ret (results_cell_row rfl _ _ w.heap.size 59 #[.int .i32 65533, .int .i64 (pos : Int), .int .i64 1, .bool true] (0, 0) _ rfl ((Below.block ((Ext.refl _).alloc _) _ (by simp; exact lz)).trans (set_four hblk.out)) Tryz.underlying59 rfl (by kernel_rfl)) rfl ⟨rfl, ?_⟩
                exact (((((hx0.trans hx).setCell (p := ⟨w.heap.size, 0, none⟩) (Nat.le_refl _) _).setCell (p := ⟨w.heap.size, 1, none⟩) (Nat.le_refl _) _).setCell (p := ⟨w.heap.size, 2, none⟩) (Nat.le_refl _) _).setCell (p := ⟨w.heap.size, 3, none⟩) (Nat.le_refl _) _).alloc _
              · have gm : decide ((V : Int) < 128) = false := decide_eq_false (by omega)
                have hmv : 128 ≤ V := by omega
                have HM := Lib.hid hmv
                clear hmv hmin hp1 hp2
                cases U
                · have hpb := HB.out (fun h => by cases h.2.2.2)
                  subst hpb
                  clear HG HB
                  go_wp2_with (go_at_call 103; refine (HRU.out _).mono ?_; rintro e w2 ⟨rfl, rfl⟩)
                  refine bodyPost_ret (results_cell_row rfl _ _ w.heap.size 59 #[.int .i32 65533, .int .i64 (pos : Int), .int .i64 1, .bool true] (0, 0) _ rfl ((Below.block ((Ext.refl _).alloc _) _ (by simp; exact lz)).trans (set_four hblk.out)) Tryz.underlying59 rfl (by kernel_rfl)) rfl ⟨rfl, ?_⟩
                  exact (((((hx0.trans hx).setCell (p := ⟨w.heap.size, 0, none⟩) (Nat.le_refl _) _).setCell (p := ⟨w.heap.size, 1, none⟩) (Nat.le_refl _) _).setCell (p := ⟨w.heap.size, 2, none⟩) (Nat.le_refl _) _).setCell (p := ⟨w.heap.size, 3, none⟩) (Nat.le_refl _) _).alloc _
                · have hpb := HG.out ⟨hl, hc.out, HM.out, rfl⟩
                  subst hpb
                  clear HG HB
                  go_wp2_with (go_at_call 103; refine (HRU.out _).mono ?_; rintro e w2 ⟨rfl, rfl⟩)
                  refine bodyPost_ret (results_cell_row rfl _ _ w.heap.size 59 #[.int .i32 ((V : Nat) : Int), .int .i64 (pos : Int), .int .i64 2, .bool false] (0, 0) _ rfl ((Below.block ((Ext.refl _).alloc _) _ (by simp; exact lz)).trans (set_four hblk.out)) Tryz.underlying59 rfl (by kernel_rfl)) rfl ⟨rfl, ?_⟩
                  exact (((((hx0.trans hx).setCell (p := ⟨w.heap.size, 0, none⟩) (Nat.le_refl _) _).setCell (p := ⟨w.heap.size, 1, none⟩) (Nat.le_refl _) _).setCell (p := ⟨w.heap.size, 2, none⟩) (Nat.le_refl _) _).setCell (p := ⟨w.heap.size, 3, none⟩) (Nat.le_refl _) _).alloc _
        · have hpb := HB.out (fun h => hl h.1)
          subst hpb
          go_enter Tryz.func68, Tryz.ntmps68
          go_wp2_with fail
          refine bodyPost_ret (results_cell_row rfl _ _ w.heap.size 59 #[.int .i32 65533, .int .i64 (pos : Int), .int .i64 1, .bool true] (0, 0) _ rfl (heap_alloc2_old w _ _) Tryz.underlying59 rfl (by kernel_rfl)) rfl ⟨rfl, ?_⟩
          exact ((Ext.refl _).alloc _).alloc _
      · by_cases c4 : bt s pos < 240
        · have hd := dec3 (s := s) (pos := pos) ⟨by omega, by omega⟩
          have hres : pieceV s pos = .agg #[.int .i32 (pv s pos 224 2 : Nat), .int .i64 (pos : Int), .int .i64 3, .bool false] ∨ pieceV s pos = .agg #[.int .i32 65533, .int .i64 (pos : Int), .int .i64 1, .bool true] := by
            by_cases hc : pos + 3 ≤ s.size ∧ contB s pos 3 ∧ 2048 ≤ pv s pos 224 2 ∧ Utf8.valid (pv s pos 224 2 : Nat) = true
            · exact .inl (piece_good (hd.1 hc) (by decide))
            · exact .inr (piece_bad (hd.2 hc))
          have hgood := fun h => piece_good (hd.1 h) (by decide : 3 ≠ 1)
          have hbad := fun h => piece_bad (hd.2 h)
          have h31 : bt s pos - 224 ≤ 31 := by omega
          have hpv := fun d hc => pv_le (s := s) (pos := pos) (base := 224) h31 (d := d) hc
          have hv0 : pv s pos 224 0 = (s[pos]'hp).toNat - 224 := by rw [← hbt]; rfl
          rw [hbt] at c1 c2 hb0 c3 c4
          obtain ⟨PV, hPV⟩ : ∃ PV, pieceV s pos = PV := ⟨_, rfl⟩
          rw [hPV] at hgood hbad ⊢
          have HG := Lib.hid hgood
          have HB := Lib.hid hbad
          have HPV := Lib.hid hpv
          have HV0 := Lib.hid hv0
          clear hd hres hgood hbad hpv hv0 hPV hbt hB0 h31
          by_cases hl : pos + 3 ≤ s.size
          · go_enter Tryz.func68, Tryz.ntmps68
            go_upto_region 19 with fail
            have hz1 := heap_alloc2_old w (.cells #[.int .i32 0, .int .i64 0, .int .i64 0, .bool false] 59) (.cells #[.int .i32 65533, .int .i64 (pos : Int), .int .i64 1, .bool true] 59)
            have hz2 := heap_alloc2_new w (.cells #[.int .i32 0, .int .i64 0, .int .i64 0, .bool false] 59) (.cells #[.int .i32 65533, .int .i64 (pos : Int), .int .i64 1, .bool true] 59)
            have hx0 : Ext w ((w.alloc (.cells #[.int .i32 0, .int .i64 0, .int .i64 0, .bool false] 59)).alloc (.cells #[.int .i32 65533, .int .i64 (pos : Int), .int .i64 1, .bool true] 59)) := ((Ext.refl _).alloc _).alloc _
            have hsz0 : ((w.alloc (.cells #[.int .i32 0, .int .i64 0, .int .i64 0, .bool false] 59)).alloc (.cells #[.int .i32 65533, .int .i64 (pos : Int), .int .i64 1, .bool true] 59)).heap.size = w.heap.size + 1 + 1 := by rw [size_alloc, size_alloc]
            obtain ⟨W0, hW0⟩ : ∃ W0, (w.alloc (.cells #[.int .i32 0, .int .i64 0, .int .i64 0, .bool false] 59)).alloc (.cells #[.int .i32 65533, .int .i64 (pos : Int), .int .i64 1, .bool true] 59) = W0 := ⟨_, rfl⟩
            rw [hW0] at hz1 hz2 hx0 hsz0 ⊢
            clear hW0
            have W0z := fun W (hW : Ext W0 W) => (Below.block hW _ (by omega : w.heap.size < W0.heap.size)).trans hz1
            have W0b := fun W (hW : Ext W0 W) => (Below.block hW _ (by omega : w.heap.size + 1 < W0.heap.size)).trans hz2
            have HZ := Lib.hid W0z
            have HZ2 := Lib.hid W0b
            clear W0z W0b
            have gd : decide (((s[pos]'hp).toNat : Int) < 240) = true := decide_eq_true (by omega)
            simp only [gd]
            clear gd
            go_loopw [7, 9] (fun r i wr => ∃ d : Nat, d + 1 ≤ 3 ∧ i = .int .i64 ((d + 1 : Nat) : Int) ∧ r = .int .i32 ((pv s pos 224 d : Nat) : Int) ∧ Hid (contB s pos (d + 1)) ∧ Ext W0 wr) (fun _ i _ => 3 - (intOf i).toNat)
            case atStart => exact ⟨0, by omega, rfl, by rw [HV0.out]; go_num, fun j h1 h2 => by omega, Ext.refl _⟩
            case round =>
              obtain ⟨d, hd, rfl, rfl, hc, hx⟩ := hrel
              obtain ⟨hp1, hp2⟩ := HPV.out d hc.out
              have hle := hx.le
              by_cases hlt : d + 1 < 3
              · have hq : pos + (d + 1) < s.size := by omega
                have hbq := bt_eq hq
                have hbl := bt_lt s (pos + (d + 1))
                have hpd := hp2 (by omega)
                have hta := fun W => tail01_any (bt s (pos + (d + 1))) hbl W
                by_cases ht : 128 ≤ bt s (pos + (d + 1)) ∧ bt s (pos + (d + 1)) < 192
                · rw [decide_eq_true ht, hbq] at hta
                  have hst : pv s pos 224 (d + 1) = 64 * pv s pos 224 d + (bt s (pos + (d + 1)) - 128) := rfl
                  have hcc : contB s pos (d + 1 + 1) := fun j h1 h2 => by
                    rcases Nat.lt_or_eq_of_le (Nat.le_of_lt_succ h2) with h3 | h3
                    · exact hc.out j h1 h3
                    · rw [h3]; exact ht
                  rw [hbq] at hst ht
                  have HTA := Lib.hid hta
                  have HST := Lib.hid hst
                  have HCC := Lib.hid hcc
                  clear hta hst hcc hbq hbl hp1 hp2 hc
                  go_wp2_with (go_at_call 102; refine (HTA.out _).mono ?_; rintro e w2 ⟨rfl, rfl⟩)
                  refine ⟨⟨d + 1, by omega, by go_num, by rw [HST.out]; go_num, HCC, hx⟩, by simp [intOf]; omega⟩
                · rw [decide_eq_false ht, hbq] at hta
                  have hpb := HB.out (fun h => ht (h.2.1 (d + 1) (by omega) (by omega)))
                  subst hpb
                  have HTA := Lib.hid hta
                  clear hta hbq hbl hp1 hp2 hc
                  obtain ⟨b0, b1, b2, b3, lb⟩ := four_cells (HZ2.out _ hx)
                  obtain ⟨z0, z1, z2, z3, lz⟩ := four_cells (HZ.out _ hx)
                  have hblk := Lib.hid (HZ.out _ hx)
                  have f0 := four_froz hblk.out 0
                  have f1 := four_froz hblk.out 1
                  have f2 := four_froz hblk.out 2
                  have f3 := four_froz hblk.out 3
                  go_wp2_with (go_at_call 102; refine (HTA.out _).mono ?_; rintro e w2 ⟨rfl, rfl⟩)
                  refine bodyPost_ret (results_cell_row rfl _ _ w.heap.size 59 #[.int .i32 65533, .int .i64 (pos : Int), .int .i64 1, .bool true] (0, 0) _ rfl (set_four hblk.out) Tryz.underlying59 rfl (by kernel_rfl)) rfl ⟨rfl, ?_⟩
                  exact ((((hx0.trans hx).setCell (p := ⟨w.heap.size, 0, none⟩) (Nat.le_refl _) _).setCell (p := ⟨w.heap.size, 1, none⟩) (Nat.le_refl _) _).setCell (p := ⟨w.heap.size, 2, none⟩) (Nat.le_refl _) _).setCell (p := ⟨w.heap.size, 3, none⟩) (Nat.le_refl _) _
              · obtain rfl : d = 2 := (by omega)
                have hir : ((pv s pos 224 2 : Nat) : Int) < 2147483648 := by omega
                have hru := fun W => Rune01_any ((pv s pos 224 2 : Nat) : Int) (by omega) (by omega) W
                obtain ⟨V, hV⟩ : ∃ V, pv s pos 224 2 = V := ⟨_, rfl⟩
                rw [hV] at hru hp1 hp2 HG HB ⊢
                obtain ⟨U, hU⟩ : ∃ U, Utf8.valid (V : Int) = U := ⟨_, rfl⟩
                rw [hU] at hru HG HB
                have HRU := Lib.hid hru
                clear hru hV hU hir
                obtain ⟨b0, b1, b2, b3, lb⟩ := four_cells (HZ2.out _ hx)
                obtain ⟨z0, z1, z2, z3, lz⟩ := four_cells (HZ.out _ hx)
                have hblk := Lib.hid (HZ.out _ hx)
                have f0 := four_froz hblk.out 0
                have f1 := four_froz hblk.out 1
                have f2 := four_froz hblk.out 2
                have f3 := four_froz hblk.out 3
                by_cases hmin : V < 2048
                · have hpb := HB.out (fun h => by omega)
                  subst hpb
                  clear HG HB
                  go_wp2_with fail
                  refine bodyPost_ret (results_cell_row rfl _ _ w.heap.size 59 #[.int .i32 65533, .int .i64 (pos : Int), .int .i64 1, .bool true] (0, 0) _ rfl ((Below.block ((Ext.refl _).alloc _) _ (by simp; exact lz)).trans (set_four hblk.out)) Tryz.underlying59 rfl (by kernel_rfl)) rfl ⟨rfl, ?_⟩
                  exact (((((hx0.trans hx).setCell (p := ⟨w.heap.size, 0, none⟩) (Nat.le_refl _) _).setCell (p := ⟨w.heap.size, 1, none⟩) (Nat.le_refl _) _).setCell (p := ⟨w.heap.size, 2, none⟩) (Nat.le_refl _) _).setCell (p := ⟨w.heap.size, 3, none⟩) (Nat.le_refl _) _).alloc _
                · have gm : decide ((V : Int) < 2048) = false := decide_eq_false (by omega)
                  have hmv : 2048 ≤ V := by omega
                  have HM := Lib.hid hmv
                  clear hmv hmin hp1 hp2
                  cases U
                  · have hpb := HB.out (fun h => by cases h.2.2.2)
                    subst hpb
                    clear HG HB
                    go_wp2_with (go_at_call 103; refine (HRU.out _).mono ?_; rintro e w2 ⟨rfl, rfl⟩)
                    refine bodyPost_ret (results_cell_row rfl _ _ w.heap.size 59 #[.int .i32 65533, .int .i64 (pos : Int), .int .i64 1, .bool true] (0, 0) _ rfl ((Below.block ((Ext.refl _).alloc _) _ (by simp; exact lz)).trans (set_four hblk.out)) Tryz.underlying59 rfl (by kernel_rfl)) rfl ⟨rfl, ?_⟩
                    exact (((((hx0.trans hx).setCell (p := ⟨w.heap.size, 0, none⟩) (Nat.le_refl _) _).setCell (p := ⟨w.heap.size, 1, none⟩) (Nat.le_refl _) _).setCell (p := ⟨w.heap.size, 2, none⟩) (Nat.le_refl _) _).setCell (p := ⟨w.heap.size, 3, none⟩) (Nat.le_refl _) _).alloc _
                  · have hpb := HG.out ⟨hl, hc.out, HM.out, rfl⟩
                    subst hpb
                    clear HG HB
                    go_wp2_with (go_at_call 103; refine (HRU.out _).mono ?_; rintro e w2 ⟨rfl, rfl⟩)
                    refine bodyPost_ret (results_cell_row rfl _ _ w.heap.size 59 #[.int .i32 ((V : Nat) : Int), .int .i64 (pos : Int), .int .i64 3, .bool false] (0, 0) _ rfl ((Below.block ((Ext.refl _).alloc _) _ (by simp; exact lz)).trans (set_four hblk.out)) Tryz.underlying59 rfl (by kernel_rfl)) rfl ⟨rfl, ?_⟩
                    exact (((((hx0.trans hx).setCell (p := ⟨w.heap.size, 0, none⟩) (Nat.le_refl _) _).setCell (p := ⟨w.heap.size, 1, none⟩) (Nat.le_refl _) _).setCell (p := ⟨w.heap.size, 2, none⟩) (Nat.le_refl _) _).setCell (p := ⟨w.heap.size, 3, none⟩) (Nat.le_refl _) _).alloc _
          · have hpb := HB.out (fun h => hl h.1)
            subst hpb
            go_enter Tryz.func68, Tryz.ntmps68
            go_wp2_with fail
            refine bodyPost_ret (results_cell_row rfl _ _ w.heap.size 59 #[.int .i32 65533, .int .i64 (pos : Int), .int .i64 1, .bool true] (0, 0) _ rfl (heap_alloc2_old w _ _) Tryz.underlying59 rfl (by kernel_rfl)) rfl ⟨rfl, ?_⟩
            exact ((Ext.refl _).alloc _).alloc _
        · have hd := dec4 (s := s) (pos := pos) ⟨by omega, by omega⟩
          have hres : pieceV s pos = .agg #[.int .i32 (pv s pos 240 3 : Nat), .int .i64 (pos : Int), .int .i64 4, .bool false] ∨ pieceV s pos = .agg #[.int .i32 65533, .int .i64 (pos : Int), .int .i64 1, .bool true] := by
            by_cases hc : pos + 4 ≤ s.size ∧ contB s pos 4 ∧ 65536 ≤ pv s pos 240 3 ∧ Utf8.valid (pv s pos 240 3 : Nat) = true
            · exact .inl (piece_good (hd.1 hc) (by decide))
            · exact .inr (piece_bad (hd.2 hc))
          have hgood := fun h => piece_good (hd.1 h) (by decide : 4 ≠ 1)
          have hbad := fun h => piece_bad (hd.2 h)
          have h31 : bt s pos - 240 ≤ 31 := by omega
          have hpv := fun d hc => pv_le (s := s) (pos := pos) (base := 240) h31 (d := d) hc
          have hv0 : pv s pos 240 0 = (s[pos]'hp).toNat - 240 := by rw [← hbt]; rfl
          rw [hbt] at c1 c2 hb0 c3 c4
          obtain ⟨PV, hPV⟩ : ∃ PV, pieceV s pos = PV := ⟨_, rfl⟩
          rw [hPV] at hgood hbad ⊢
          have HG := Lib.hid hgood
          have HB := Lib.hid hbad
          have HPV := Lib.hid hpv
          have HV0 := Lib.hid hv0
          clear hd hres hgood hbad hpv hv0 hPV hbt hB0 h31
          by_cases hl : pos + 4 ≤ s.size
          · go_enter Tryz.func68, Tryz.ntmps68
            go_upto_region 19 with fail
            have hz1 := heap_alloc2_old w (.cells #[.int .i32 0, .int .i64 0, .int .i64 0, .bool false] 59) (.cells #[.int .i32 65533, .int .i64 (pos : Int), .int .i64 1, .bool true] 59)
            have hz2 := heap_alloc2_new w (.cells #[.int .i32 0, .int .i64 0, .int .i64 0, .bool false] 59) (.cells #[.int .i32 65533, .int .i64 (pos : Int), .int .i64 1, .bool true] 59)
            have hx0 : Ext w ((w.alloc (.cells #[.int .i32 0, .int .i64 0, .int .i64 0, .bool false] 59)).alloc (.cells #[.int .i32 65533, .int .i64 (pos : Int), .int .i64 1, .bool true] 59)) := ((Ext.refl _).alloc _).alloc _
            have hsz0 : ((w.alloc (.cells #[.int .i32 0, .int .i64 0, .int .i64 0, .bool false] 59)).alloc (.cells #[.int .i32 65533, .int .i64 (pos : Int), .int .i64 1, .bool true] 59)).heap.size = w.heap.size + 1 + 1 := by rw [size_alloc, size_alloc]
            obtain ⟨W0, hW0⟩ : ∃ W0, (w.alloc (.cells #[.int .i32 0, .int .i64 0, .int .i64 0, .bool false] 59)).alloc (.cells #[.int .i32 65533, .int .i64 (pos : Int), .int .i64 1, .bool true] 59) = W0 := ⟨_, rfl⟩
            rw [hW0] at hz1 hz2 hx0 hsz0 ⊢
            clear hW0
            have W0z := fun W (hW : Ext W0 W) => (Below.block hW _ (by omega : w.heap.size < W0.heap.size)).trans hz1
            have W0b := fun W (hW : Ext W0 W) => (Below.block hW _ (by omega : w.heap.size + 1 < W0.heap.size)).trans hz2
            have HZ := Lib.hid W0z
            have HZ2 := Lib.hid W0b
            clear W0z W0b
            have gd : decide (((s[pos]'hp).toNat : Int) < 248) = true := decide_eq_true (by omega)
            simp only [gd]
            clear gd
            go_loopw [7, 9] (fun r i wr => ∃ d : Nat, d + 1 ≤ 4 ∧ i = .int .i64 ((d + 1 : Nat) : Int) ∧ r = .int .i32 ((pv s pos 240 d : Nat) : Int) ∧ Hid (contB s pos (d + 1)) ∧ Ext W0 wr) (fun _ i _ => 4 - (intOf i).toNat)
            case atStart => exact ⟨0, by omega, rfl, by rw [HV0.out]; go_num, fun j h1 h2 => by omega, Ext.refl _⟩
            case round =>
              obtain ⟨d, hd, rfl, rfl, hc, hx⟩ := hrel
              obtain ⟨hp1, hp2⟩ := HPV.out d hc.out
              have hle := hx.le
              by_cases hlt : d + 1 < 4
              · have hq : pos + (d + 1) < s.size := by omega
                have hbq := bt_eq hq
                have hbl := bt_lt s (pos + (d + 1))
                have hpd := hp2 (by omega)
                have hta := fun W => tail01_any (bt s (pos + (d + 1))) hbl W
                by_cases ht : 128 ≤ bt s (pos + (d + 1)) ∧ bt s (pos + (d + 1)) < 192
                · rw [decide_eq_true ht, hbq] at hta
                  have hst : pv s pos 240 (d + 1) = 64 * pv s pos 240 d + (bt s (pos + (d + 1)) - 128) := rfl
                  have hcc : contB s pos (d + 1 + 1) := fun j h1 h2 => by
                    rcases Nat.lt_or_eq_of_le (Nat.le_of_lt_succ h2) with h3 | h3
                    · exact hc.out j h1 h3
                    · rw [h3]; exact ht
                  rw [hbq] at hst ht
                  have HTA := Lib.hid hta
                  have HST := Lib.hid hst
                  have HCC := Lib.hid hcc
                  clear hta hst hcc hbq hbl hp1 hp2 hc
                  go_wp2_with (go_at_call 102; refine (HTA.out _).mono ?_; rintro e w2 ⟨rfl, rfl⟩)
                  refine ⟨⟨d + 1, by omega, by go_num, by rw [HST.out]; go_num, HCC, hx⟩, by simp [intOf]; omega⟩
                · rw [decide_eq_false ht, hbq] at hta
                  have hpb := HB.out (fun h => ht (h.2.1 (d + 1) (by omega) (by omega)))
                  subst hpb
                  have HTA := Lib.hid hta
                  clear hta hbq hbl hp1 hp2 hc
                  obtain ⟨b0, b1, b2, b3, lb⟩ := four_cells (HZ2.out _ hx)
                  obtain ⟨z0, z1, z2, z3, lz⟩ := four_cells (HZ.out _ hx)
                  have hblk := Lib.hid (HZ.out _ hx)
                  have f0 := four_froz hblk.out 0
                  have f1 := four_froz hblk.out 1
                  have f2 := four_froz hblk.out 2
                  have f3 := four_froz hblk.out 3
                  go_wp2_with (go_at_call 102; refine (HTA.out _).mono ?_; rintro e w2 ⟨rfl, rfl⟩)
                  refine bodyPost_ret (results_cell_row rfl _ _ w.heap.size 59 #[.int .i32 65533, .int .i64 (pos : Int), .int .i64 1, .bool true] (0, 0) _ rfl (set_four hblk.out) Tryz.underlying59 rfl (by kernel_rfl)) rfl ⟨rfl, ?_⟩
                  exact ((((hx0.trans hx).setCell (p := ⟨w.heap.size, 0, none⟩) (Nat.le_refl _) _).setCell (p := ⟨w.heap.size, 1, none⟩) (Nat.le_refl _) _).setCell (p := ⟨w.heap.size, 2, none⟩) (Nat.le_refl _) _).setCell (p := ⟨w.heap.size, 3, none⟩) (Nat.le_refl _) _
              · obtain rfl : d = 3 := (by omega)
                have hir : ((pv s pos 240 3 : Nat) : Int) < 2147483648 := by omega
                have hru := fun W => Rune01_any ((pv s pos 240 3 : Nat) : Int) (by omega) (by omega) W
                obtain ⟨V, hV⟩ : ∃ V, pv s pos 240 3 = V := ⟨_, rfl⟩
                rw [hV] at hru hp1 hp2 HG HB ⊢
                obtain ⟨U, hU⟩ : ∃ U, Utf8.valid (V : Int) = U := ⟨_, rfl⟩
                rw [hU] at hru HG HB
                have HRU := Lib.hid hru
                clear hru hV hU hir
                obtain ⟨b0, b1, b2, b3, lb⟩ := four_cells (HZ2.out _ hx)
                obtain ⟨z0, z1, z2, z3, lz⟩ := four_cells (HZ.out _ hx)
                have hblk := Lib.hid (HZ.out _ hx)
                have f0 := four_froz hblk.out 0
                have f1 := four_froz hblk.out 1
                have f2 := four_froz hblk.out 2
                have f3 := four_froz hblk.out 3
                by_cases hmin : V < 65536
                · have hpb := HB.out (fun h => by omega)
                  subst hpb
                  clear HG HB
                  go_wp2_with fail
                  refine bodyPost_ret (results_cell_row rfl _ _ w.heap.size 59 #[.int .i32 65533, .int .i64 (pos : Int), .int .i64 1, .bool true] (0, 0) _ rfl ((Below.block ((Ext.refl _).alloc _) _ (by simp; exact lz)).trans (set_four hblk.out)) Tryz.underlying59 rfl (by kernel_rfl)) rfl ⟨rfl, ?_⟩
                  exact (((((hx0.trans hx).setCell (p := ⟨w.heap.size, 0, none⟩) (Nat.le_refl _) _).setCell (p := ⟨w.heap.size, 1, none⟩) (Nat.le_refl _) _).setCell (p := ⟨w.heap.size, 2, none⟩) (Nat.le_refl _) _).setCell (p := ⟨w.heap.size, 3, none⟩) (Nat.le_refl _) _).alloc _
                · have gm : decide ((V : Int) < 65536) = false := decide_eq_false (by omega)
                  have hmv : 65536 ≤ V := by omega
                  have HM := Lib.hid hmv
                  clear hmv hmin hp1 hp2
                  cases U
                  · have hpb := HB.out (fun h => by cases h.2.2.2)
                    subst hpb
                    clear HG HB
                    go_wp2_with (go_at_call 103; refine (HRU.out _).mono ?_; rintro e w2 ⟨rfl, rfl⟩)
                    refine bodyPost_ret (results_cell_row rfl _ _ w.heap.size 59 #[.int .i32 65533, .int .i64 (pos : Int), .int .i64 1, .bool true] (0, 0) _ rfl ((Below.block ((Ext.refl _).alloc _) _ (by simp; exact lz)).trans (set_four hblk.out)) Tryz.underlying59 rfl (by kernel_rfl)) rfl ⟨rfl, ?_⟩
                    exact (((((hx0.trans hx).setCell (p := ⟨w.heap.size, 0, none⟩) (Nat.le_refl _) _).setCell (p := ⟨w.heap.size, 1, none⟩) (Nat.le_refl _) _).setCell (p := ⟨w.heap.size, 2, none⟩) (Nat.le_refl _) _).setCell (p := ⟨w.heap.size, 3, none⟩) (Nat.le_refl _) _).alloc _
                  · have hpb := HG.out ⟨hl, hc.out, HM.out, rfl⟩
                    subst hpb
                    clear HG HB
                    go_wp2_with (go_at_call 103; refine (HRU.out _).mono ?_; rintro e w2 ⟨rfl, rfl⟩)
                    refine bodyPost_ret (results_cell_row rfl _ _ w.heap.size 59 #[.int .i32 ((V : Nat) : Int), .int .i64 (pos : Int), .int .i64 4, .bool false] (0, 0) _ rfl ((Below.block ((Ext.refl _).alloc _) _ (by simp; exact lz)).trans (set_four hblk.out)) Tryz.underlying59 rfl (by kernel_rfl)) rfl ⟨rfl, ?_⟩
                    exact (((((hx0.trans hx).setCell (p := ⟨w.heap.size, 0, none⟩) (Nat.le_refl _) _).setCell (p := ⟨w.heap.size, 1, none⟩) (Nat.le_refl _) _).setCell (p := ⟨w.heap.size, 2, none⟩) (Nat.le_refl _) _).setCell (p := ⟨w.heap.size, 3, none⟩) (Nat.le_refl _) _).alloc _
          · have hpb := HB.out (fun h => hl h.1)
            subst hpb
            go_enter Tryz.func68, Tryz.ntmps68
            go_wp2_with fail
            refine bodyPost_ret (results_cell_row rfl _ _ w.heap.size 59 #[.int .i32 65533, .int .i64 (pos : Int), .int .i64 1, .bool true] (0, 0) _ rfl (heap_alloc2_old w _ _) Tryz.underlying59 rfl (by kernel_rfl)) rfl ⟨rfl, ?_⟩
            exact ((Ext.refl _).alloc _).alloc _

end Go.Proofs.YtcnhlogkhnoacaaGreatDoor
