/- Contracts: cognatelaw17.cells (a paradigm of so many cells with so many affixes each), row. -/
import Derived.Test.YtkmfhcjdaglikaaDoorPasg
import Derived.Test.YtkmfhcjdaglikaaDoorPamc
import Derived.Deep.OwnRows
import Derived.Laws.BytesArg
namespace Go.Proofs.YtkmfhcjdaglikaaDoor
open Go.RowKit Go.Cg Go.Shelf Go.Maps

def affA : Aff := ⟨2, ⟨#[97]⟩, ⟨#[]⟩, 0⟩
/-- so many affixes 'Back a' -/
def affN (m : Nat) : List Aff := List.replicate m affA
def celN (n m : Nat) : List PCell := List.replicate n ⟨0, affN m⟩
theorem affN_ax {m j : Nat} (h : j < m) : ax (affN m) j = affA := by unfold ax affN; simp [List.getD, h]
theorem celN_cx {n m k : Nat} (h : k < n) : cx (celN n m) k = ⟨0, affN m⟩ := by unfold cx celN; simp [List.getD, h]
theorem affN_len (m : Nat) : (affN m).length = m := by simp [affN]
theorem celN_len (n m : Nat) : (celN n m).length = n := by simp [celN]
theorem affA_wf : affA.wf := by unfold Aff.wf affA; exact ⟨by decide, by decide, by decide, by decide, by decide⟩
theorem affList_succ (j : Nat) : affList (affN (j + 1)) = affList (affN j) ++ [.int .u8 2, .string ⟨#[97]⟩, .string ⟨#[]⟩, .int .i64 0] := by
  unfold affList
  rw [affN_len, affN_len, show (j + 1) * 4 = j * 4 + 1 + 1 + 1 + 1 by omega, List.range_succ, List.range_succ, List.range_succ, List.range_succ, List.map_append, List.map_append, List.map_append, List.map_append, List.append_assoc, List.append_assoc, List.append_assoc]
  congr 1
  · apply List.map_congr_left
    intro i hi
    have hi2 := List.mem_range.1 hi
    unfold affCell
    rw [affN_ax (show i / 4 < j + 1 by omega), affN_ax (show i / 4 < j by omega)]
  · obtain ⟨h0, h1, h2, h3⟩ := affCell_at (affN (j + 1)) j
    rw [affN_ax (Nat.lt_succ_self j)] at h0 h1 h2 h3
    simp only [List.map_cons, List.map_nil, h0, h1, h2, h3, List.cons_append, List.nil_append]
    rfl
def t_p1 : ByteArray := ⟨#[112, 45, 49]⟩
def CellsRes (n m : Nat) (e : Ending) (w' : World) : Prop := ∃ p c g, e = .returned (.agg #[.string t_p1, .slice p n c]) ∧ CellsAt w' p (celN n m) g

set_option maxRecDepth 100000 in
set_option maxHeartbeats 4000000 in
theorem cells17_any (n m : Nat) (hn : n ≤ 1000) (hm : m ≤ 60) (w : World) :
    Calls Tryd.prog 11 #[.int .i64 (n : Int), .int .i64 (m : Int)] w fun e w' => CellsRes n m e w' ∧ Ext w w' := by
  obtain ⟨i0, hi, hz0, hz1, hz2⟩ := info_parts infoAf
  obtain ⟨j0, hj, hy0, hy1, hy2⟩ := info_parts infoCe
  have hx0 : Ext w (w.alloc (.cells #[.string ⟨#[]⟩, .slice none 0 0] 32)) := (Ext.refl _).alloc _
  obtain ⟨W2, hW2⟩ : ∃ W2, w.alloc (.cells #[.string ⟨#[]⟩, .slice none 0 0] 32) = W2 := ⟨_, rfl⟩
  have hsz : W2.heap.size = w.heap.size + 1 := by rw [← hW2, size_alloc]
  have HRB := Lib.hid (fun W (hW : Ext W2 W) => (by
    refine (hW.block _ (by rw [hsz]; omega)).trans ?_
    rw [← hW2]
    exact heap_alloc_new w _ : W.heap[w.heap.size]? = some (.cells #[.string ⟨#[]⟩, .slice none 0 0] 32 (0, 0))))
  have HB := Lib.hid (fun W (hW : Ext W2 W) => (⟨cell_of9 (HRB.out _ hW) (j := 0) rfl, cell_of9 (HRB.out _ hW) (j := 1) rfl, four_froz9 (HRB.out _ hW) 0, four_froz9 (HRB.out _ hW) 1, (Array.getElem?_eq_some_iff.1 (HRB.out _ hW)).1⟩ : W.cell? ⟨w.heap.size, 0, none⟩ = some (.string ⟨#[]⟩) ∧ W.cell? ⟨w.heap.size, 1, none⟩ = some (.slice none 0 0) ∧ W.frozen? ⟨w.heap.size, 0, none⟩ = false ∧ W.frozen? ⟨w.heap.size, 1, none⟩ = false ∧ w.heap.size < W.heap.size))
  rw [hW2] at hx0
  have HX := Lib.hid hx0
  have HSZ := Lib.hid hsz
  have hI0 : TwinI (celN n m) W2.heap.size t_p1 (W2.alloc (.cells #[.string t_p1, .slice none 0 0] 32)) (.slice none 0 0) 0 (fun _ => (none, 0)) := ⟨heap_alloc_new _ _, World.ownsRow_nil _ _ _ _, fun j h => absurd h (by omega)⟩
  have HI0 := Lib.hid hI0
  have HXD := Lib.hid (show Ext W2 (W2.alloc (.cells #[.string t_p1, .slice none 0 0] 32)) from (Ext.refl _).alloc _)
  have HLN := Lib.hid (celN_len n m)
  obtain ⟨nm, hnm⟩ : ∃ nm, t_p1 = nm := ⟨_, rfl⟩
  have hnm2 : (⟨#[112, 45, 49]⟩ : ByteArray) = nm := hnm
  have HNM := Lib.hid hnm
  rw [hnm] at HI0 HXD
  obtain ⟨r0, r1, rf0, rf1, rl⟩ := HB.out _ (Ext.refl _)
  clear hsz hx0 hI0 hnm
  go_enter Tryd.func11, Tryd.ntmps11
  go_wp2_with fail
  clear hW2 r0 r1 rf0 rf1 rl
  go_loopw [6] (fun i wr => ∃ (k : Nat) (v : Value) (g' : Nat → Option Addr × Nat), k ≤ n ∧ i = .int .i64 k ∧ Ext W2 wr ∧ Hid (TwinI (celN n m) W2.heap.size nm wr v k g')) (fun i _ => n - (intOf i).toNat)
  case atStart => exact ⟨0, _, _, Nat.zero_le _, rfl, HXD.out, HI0⟩
  case round =>
    obtain ⟨k, v, g', hk, rfl, hx, HI⟩ := hrel
    generalize wr = wo at *
    obtain ⟨vp, vc, rfl⟩ := ownsRow_slice HI.out.2.1
    have hwr := HX.out.trans hx
    have hDl := (Array.getElem?_eq_some_iff.1 HI.out.1).1
    by_cases hlt : k < n
    · have HC := Lib.hid (celN_cx (m := m) hlt)
      have HSL := Lib.hid (fun x => parList_succ (celN n m) g' k x)
      have hvl := HI.out.2.1.lt
      have HVC := Lib.hid (show (Value.slice vp k vc).ownBlock ≠ some wo.heap.size from fun e => by have := (hvl _ e).2; omega)
      have HVD := Lib.hid (show (Value.slice vp k vc).ownBlock ≠ some W2.heap.size from fun e => by have := (hvl _ e).1; omega)
      have ha : Ext wo (wo.alloc (.cells #[.int .u64 0, .slice none 0 0] 45)) := (Ext.refl _).alloc _
      have HA0 := Lib.hid (show (wo.alloc (.cells #[.int .u64 0, .slice none 0 0] 45)).heap[wo.heap.size]? = some (.cells #[.int .u64 0, .slice none 0 0] 45 (0, 0)) from heap_alloc_new _ _)
      clear hvl
      go_wp2_with fail
      go_loopw [8] (fun i wy => ∃ (j : Nat) (up : Option Addr) (uc : Nat), j ≤ m ∧ i = .int .i64 j ∧ Ext wo wy ∧ Hid (wy.heap[wo.heap.size]? = some (.cells #[.int .u64 0, .slice up j uc] 45 (0, 0))) ∧ Hid (wy.ownsRow (wo.heap.size + 1) 36 4 (.slice up j uc) j (affList (affN j)))) (fun i _ => m - (intOf i).toNat)
      case atStart => exact ⟨0, none, 0, Nat.zero_le _, rfl, ha, HA0, Lib.hid (World.ownsRow_nil _ _ _ _)⟩
      case round =>
        obtain ⟨j, up, uc, hj9, rfl, hy, HCB, HU⟩ := hrel
        have m0 := cell_of9 HCB.out (j := 0) (v := .int .u64 0) rfl
        have m1 := cell_of9 HCB.out (j := 1) (v := .slice up j uc) rfl
        have mf0 := four_froz9 HCB.out 0
        have mf1 := four_froz9 HCB.out 1
        have ml := (Array.getElem?_eq_some_iff.1 HCB.out).1
        have hyl := hy.le
        by_cases hlj : j < m
        · have HUC := Lib.hid (show (Value.slice up j uc).ownBlock ≠ some wo.heap.size from fun e => by have := (HU.out.lt _ e).1; omega)
          have HF := Lib.hid (four_cells wr (.int .u8 2) (.string ⟨#[97]⟩) (.string ⟨#[]⟩) (.int .i64 0) 36)
          have HAS := Lib.hid (affList_succ j)
          go_wp2_with (at_builtin; refine wpList_append_lies _ rfl _ _ 37 rfl (wo.heap.size + 1) 36 i0 (.agg #[.int .u8 0, .string ⟨#[]⟩, .string ⟨#[]⟩, .int .i64 0]) 4 48 Tryd.underlying37 hi hz0 hz1 hz2 rfl (by decide) (.slice up j uc) j (affList (affN j)) rfl (HU.out.alloc _) ⟨wr.heap.size, 0, none⟩ 1 1 [.int .u8 2, .string ⟨#[97]⟩, .string ⟨#[]⟩, .int .i64 0] rfl rfl HF.out (by simp [Value.oneCell']) (by decide) (by unfold maxLen; omega) (by omega) (by simp; omega) _ rfl ?_; intro g9 c9 w9 hown9 hgrow9 hat9 hlt9; have hd9 := (hgrow9.block wo.heap.size (by rw [size_alloc]; omega) (fun e => HUC.out e.symm)).trans ((((Ext.refl wr).alloc _).block wo.heap.size ml).trans HCB.out); have x2 := cell_of9 hd9 (j := 0) (v := .int .u64 0) rfl; have x3 := cell_of9 hd9 (j := 1) (v := .slice up j uc) rfl; have x4 := four_froz9 hd9 0; have x5 := four_froz9 hd9 1; have x6 := (Array.getElem?_eq_some_iff.1 hd9).1; have HD9 := Lib.hid hd9; have HO9 := Lib.hid hown9; have HG9 := Lib.hid hgrow9; clear hd9 hown9 hgrow9 hat9)
          go_wp2_with fail
          refine ⟨⟨j + 1, some ⟨g9, 0, none⟩, c9, by omega, by go_num, ?_, Lib.hid (heap_setCell_same _ wo.heap.size 1 _ _ _ HD9.out), Lib.hid ?_⟩, by simp [intOf]; omega⟩
          · exact (Ext.append (hy.alloc _) (HU.out.alloc _) HG9.out (Nat.le_succ _)).setCell (p := ⟨wo.heap.size, 1, none⟩) (Nat.le_refl _) _
          · rw [HAS.out]
            exact ownsRow_setCell_other HO9.out (by have := (HO9.out.lt g9 rfl).1; simp [Value.ownBlock]; omega) _
        · obtain rfl : j = m := by omega
          have hm9 := (hy.block _ hDl).trans HI.out.1
          have y0 := cell_of9 hm9 (j := 0) (v := .string nm) rfl
          have y1 := cell_of9 hm9 (j := 1) (v := .slice vp k vc) rfl
          have y2 := four_froz9 hm9 0
          have y3 := four_froz9 hm9 1
          have y4 := (Array.getElem?_eq_some_iff.1 hm9).1
          have HI8 := Lib.hid (twin_ext (twin_ext HI.out hy) ((Ext.refl _).alloc (.cells #[.int .u64 0, .slice up j uc] 45)))
          have HT8 := Lib.hid (two_cells wr (.int .u64 0) (.slice up j uc) 45)
          have hoa := own_affs (xs := affN j) (by rw [affN_len]; exact HU.out) (fun i hi => by rw [affN_len] at hi; rw [affN_ax hi]; exact affA_wf) (by rw [affN_len]; omega)
          have HO6 := Lib.hid hoa
          clear hm9 hoa
          go_wp2_with (at_builtin; refine wpList_append_lies _ rfl _ _ 30 rfl (W2.heap.size + 1) 45 j0 (.agg #[.int .u64 0, .slice none 0 0]) 2 32 Tryd.underlying30 hj hy0 hy1 hy2 rfl (by decide) (.slice vp k vc) k (parList (celN n j) g' k) rfl HI8.out.2.1 ⟨wr.heap.size, 0, none⟩ 1 1 [.int .u64 0, .slice up j uc] rfl rfl HT8.out (by simp [Value.oneCell']) (by decide) (by unfold maxLen; omega) (by omega) (by simp; omega) _ rfl ?_; intro g9 c9 w9 hown9 hgrow9 hat9 hlt9; have hm9 := HI8.out.1; have hd9 := (hgrow9.block W2.heap.size (Array.getElem?_eq_some_iff.1 hm9).1 (fun e => HVD.out e.symm)).trans hm9; have x2 := cell_of9 hd9 (j := 0) (v := .string nm) rfl; have x3 := cell_of9 hd9 (j := 1) (v := .slice vp k vc) rfl; have x4 := four_froz9 hd9 0; have x5 := four_froz9 hd9 1; have x6 := (Array.getElem?_eq_some_iff.1 hd9).1; clear hm9 hd9)
          have hb6 := HO6.out.2
          have hfin := twin_more HI8.out (x := (up, uc)) (W' := w9) (g4 := g9) (cap := c9)
            (by rw [HC.out]; exact HO6.out.1.mono ((Ext.refl _).alloc _))
            (fun b off e => ⟨by have := (hb6 b off e).1; omega, by have := (hb6 b off e).2; rw [size_alloc]; omega, fun h => by
              have h1 := (hb6 b off e).1
              have h2 := (HI.out.2.1.lt b h.symm).2
              omega⟩)
            hgrow9 (by rw [HSL.out, HC.out]; dsimp only; rw [affN_len]; exact hown9) hat9 HVD.out
          have HFIN := Lib.hid hfin
          clear hfin
          go_wp2_with fail
          refine ⟨⟨k + 1, _, _, by omega, by go_num, ?_, HFIN⟩, by simp [intOf]; omega⟩
          have e1 : Ext W2 (wr.alloc (.cells #[.int .u64 0, .slice up j uc] 45)) := (hx.trans hy).alloc _
          exact (Ext.append e1 HI8.out.2.1 hgrow9 (Nat.le_succ _)).setCell (p := ⟨W2.heap.size, 1, none⟩) (Nat.le_refl _) _
    · obtain rfl : k = n := by omega
      have hd9 := HI.out.1
      have x2 := cell_of9 hd9 (j := 0) (v := .string nm) rfl
      have x3 := cell_of9 hd9 (j := 1) (v := .slice vp k vc) rfl
      obtain ⟨r0, r1, rf0, rf1, rl⟩ := HB.out _ hx
      have hrb := HRB.out _ hx
      have hb2 := set_two (v0 := .string nm) (v1 := .slice vp k vc) hrb
      have HB2 := Lib.hid hb2
      have hsz9 := HSZ.out
      have h1 := HI.out.2.1.lt
      have hno : (Value.slice vp k vc).ownBlock ≠ some w.heap.size := fun e => by have := (h1 _ e).1; omega
      have hrr : ∀ j, j < k → ∀ b off, (g' j).1 = some ⟨b, off, none⟩ → b ≠ w.heap.size := fun j hj b off e => by have := ((HI.out.2.2 j hj).2 b off e).1; omega
      have HF := Lib.hid (twin_box (o := 1) (twin_box (o := 0) HI.out (C := w.heap.size) (by omega) hno hrr (.string nm)) (C := w.heap.size) (by omega) hno hrr (.slice vp k vc))
      clear hd9 hrb hb2 h1 hno hrr hsz9
      go_wp2_with fail
      refine bodyPost_ret (results_cell_row rfl _ _ w.heap.size 32 #[.string nm, .slice vp k vc] (0, 0) _ rfl HB2.out Tryd.underlying32 rfl (by kernel_rfl)) rfl ?_
      have hF2 := HF.out
      have hln := HLN.out
      rw [← hln] at hF2
      obtain ⟨p, c, he, hca⟩ := twin_at (by rw [hln] at hF2 ⊢; exact hF2) (fun i hi => by rw [hln] at hi; rw [celN_cx hi]; show (0 : Nat) < 18446744073709551616; decide) (by rw [hln]; omega)
      rw [hln] at he
      cases he
      refine ⟨⟨_, _, _, by rw [HNM.out], hca⟩, ?_⟩
      exact (hwr.setCell (p := ⟨w.heap.size, 0, none⟩) (Nat.le_refl _) _).setCell (p := ⟨w.heap.size, 1, none⟩) (Nat.le_refl _) _

theorem infoB9 : (Tryd.prog.info? 5).map (fun i => (i.zero, i.size, i.bytes)) = some (some (.int .u8 0), 1, 1) := by kernel_rfl
/-- block B has n cells, of which those below k are 107 -/
def FillK (B T n : Nat) (w : World) (k : Nat) : Prop := ∃ cs : Array Value, w.heap[B]? = some (.cells cs T (0, 0)) ∧ cs.size = n ∧ ∀ j, j < k → cs[j]? = some (.int .u8 107)
theorem FillK.start (W : World) (v : Value) (T n : Nat) : FillK W.heap.size T n (W.alloc (.cells (madeCells #[v] n) T (0, 0))) 0 :=
  ⟨_, heap_alloc_new W _, size_madeCells _ _, fun j hj => by omega⟩
theorem FillK.set {B T n : Nat} {w : World} {k : Nat} (h : FillK B T n w k) (hk : k < n) : FillK B T n (w.setCell ⟨B, k, none⟩ (.int .u8 107)) (k + 1) := by
  obtain ⟨cs, hb, hs, hc⟩ := h
  refine ⟨_, heap_setCell_same w B k cs T _ hb, by simpa using hs, fun j hj => ?_⟩
  rw [Array.getElem?_setIfInBounds]
  by_cases e : k = j
  · subst e; simp [hs, hk]
  · rw [if_neg e]; exact hc j (by omega)
theorem FillK.cell {B T n : Nat} {w : World} {k j : Nat} (h : FillK B T n w k) (hj : j < n) : ∃ v, w.cell? ⟨B, j, none⟩ = some v ∧ w.frozen? ⟨B, j, none⟩ = false ∧ B < w.heap.size := by
  obtain ⟨cs, hb, hs, hc⟩ := h
  exact ⟨cs[j]'(by omega), by simp [World.cell?, hb, hs, hj], by simp [World.frozen?, hb], (Array.getElem?_eq_some_iff.1 hb).1⟩
/-- so many letters k -/
def kB (n : Nat) : ByteArray := ⟨(List.replicate n (107 : UInt8)).toArray⟩
theorem FillK.text {B T n : Nat} {w : World} (h : FillK B T n w n) (c : Nat) : (convert 71 9 (.slice (some ⟨B, 0, none⟩) n c)).run Tryd.prog w = .ok (.string (kB n)) w := by
  obtain ⟨cs, hb, hs, hc⟩ := h
  have := run_convert_bytes_back (P := Tryd.prog) w 71 9 5 ⟨B, 0, none⟩ c (List.replicate n (107 : UInt8)) Tryd.underlying71 Tryd.underlying5 Tryd.underlying9 (fun j hj => by
    rw [List.length_replicate] at hj
    rw [show ((⟨B, 0, none⟩ : Addr).add j) = ⟨B, j, none⟩ by simp [Addr.add]; intro h; exact h.symm]
    have e : w.cell? ⟨B, j, none⟩ = cs[j]? := by simp [World.cell?, hb]
    rw [e, hc j hj]; simp)
  rwa [List.length_replicate] at this

set_option maxRecDepth 100000 in
set_option maxHeartbeats 2000000 in
theorem row17_any (n : Nat) (hn : n ≤ 1000) (w : World) :
    Calls Tryd.prog 12 #[.int .i64 (n : Int)] w fun e w' => e = .returned (.string (kB n)) ∧ Ext w w' := by
  have hm := fun W => run_make_row' (P := Tryd.prog) 71 5 (.int .u8 0) 1 Tryd.underlying71 infoB9 rfl .i64 .i64 n (by omega) (by omega) W
  have HF0 := Lib.hid (FillK.start w (.int .u8 0) 5 n)
  have hx0 : Ext w (w.alloc (.cells (madeCells #[.int .u8 0] n) 5)) := (Ext.refl _).alloc _
  obtain ⟨MC, hMC⟩ : ∃ MC, madeCells #[Value.int .u8 0] n = MC := ⟨_, rfl⟩
  rw [hMC] at HF0 hx0
  simp only [hMC] at hm
  clear hMC
  go_enter Tryd.func12, Tryd.ntmps12
  go_wp2_with fail
  go_loopw [4] (fun i wr => ∃ k : Nat, k ≤ n ∧ i = .int .i64 k ∧ Ext w wr ∧ Hid (FillK w.heap.size 5 n wr k)) (fun i _ => n - (intOf i).toNat)
  case atStart => exact ⟨0, Nat.zero_le _, rfl, hx0, HF0⟩
  case round =>
    obtain ⟨k, hk, rfl, hx, HK⟩ := hrel
    by_cases hlt : k < n
    · obtain ⟨u, h1, h2, h3⟩ := HK.out.cell hlt
      have HK2 := Lib.hid (HK.out.set hlt)
      go_wp2_with fail
      exact ⟨⟨k + 1, by omega, by go_num, hx.setCell (p := ⟨w.heap.size, k, none⟩) (Nat.le_refl _) _, HK2⟩, by simp [intOf]; omega⟩
    · obtain rfl : k = n := by omega
      have hcv := HK.out.text k
      go_wp2_with fail
      go_ret
      exact ⟨rfl, hx⟩
end Go.Proofs.YtkmfhcjdaglikaaDoor
