/- The law ParadigmFind, walked. -/
import Derived.Test.YtkmfhcjdaglikaaDoorPamc
namespace Go.Cg
open Go.RowKit Go.Lib
theorem findTo_pre (P : List PCell) (t : Nat) (i : Nat) : ∀ d, ∃ r, findTo P t (i + d) = findTo P t i ++ r
  | 0 => ⟨[], by simp⟩
  | d + 1 => by
    obtain ⟨r, hr⟩ := findTo_pre P t i d
    rw [← Nat.add_assoc, findTo]
    split
    · exact ⟨r ++ [i + d], by rw [hr, List.append_assoc]⟩
    · exact ⟨r, hr⟩
theorem findTo_nth {P : List PCell} {t i n : Nat} (hi : i < n) (h : t &&& (cx P i).tags = t) : (findTo P t i).length < (findTo P t n).length ∧ (findTo P t n)[(findTo P t i).length]? = some i := by
  obtain ⟨r, hr⟩ := findTo_pre P t (i + 1) (n - (i + 1))
  rw [show i + 1 + (n - (i + 1)) = n by omega, findTo_yes h] at hr
  rw [hr]
  refine ⟨by simp, ?_⟩
  rw [List.append_assoc, List.getElem?_append_right (Nat.le_refl _)]
  simp
end Go.Cg
namespace Go.Proofs.YtkmfhcjdaglikaaDoor
open Go.RowKit Go.Cg Go.Shelf Go.Maps

set_option maxRecDepth 100000 in
set_option maxHeartbeats 8000000 in
theorem paradigmFind_any (pp : Option Addr) (pc : Nat) (P : Para) (g : Nat → Option Addr × Nat) (t : Nat) (ht : t < 18446744073709551616) (w : World) (hP : CellsAt w pp P.cells g) (hT : Tabs w) :
    Calls Tryd.prog 5 #[.agg #[.string P.name, .slice pp P.cells.length pc], .int .u64 (t : Int)] w fun e w' => e = .returned (.bool true) ∧ Ext w w' := by
  have hx0 : Ext w (w.alloc (.cells #[.string P.name, .slice pp P.cells.length pc] 32)) := (Ext.refl _).alloc _
  have HBX := Lib.hid (fun W (hW : Ext (w.alloc (.cells #[.string P.name, .slice pp P.cells.length pc] 32)) W) => (⟨hW.cell0 0, hW.cell0 1, hW.lt0⟩ : W.cell? ⟨w.heap.size, 0, none⟩ = some (.string P.name) ∧ W.cell? ⟨w.heap.size, 1, none⟩ = some (.slice pp P.cells.length pc) ∧ w.heap.size < W.heap.size))
  have HAL := Lib.hid (alive17_any _ (hT.ext hx0))
  have HFD := Lib.hid (fun W (hW : Ext w W) => find_any pp pc P g t ht W (hP.mono hW))
  have hpb := hP.big
  have HX := Lib.hid hx0
  clear hx0
  by_cases hbig : 5000 < P.cells.length
  · go_enter Tryd.func5, Tryd.ntmps5
    go_wp2_with fail
    refine HAL.out.mono ?_
    rintro e w1 ⟨rfl, hy1⟩
    obtain ⟨d0, d1, l0⟩ := HBX.out _ hy1
    go_wp2_with fail
    go_ret
    exact ⟨rfl, HX.out.trans hy1⟩
  · have hlen : P.cells.length ≤ 5000 := by omega
    clear hbig
    go_enter Tryd.func5, Tryd.ntmps5
    go_wp2_with fail
    refine HAL.out.mono ?_
    rintro e w1 ⟨rfl, hy1⟩
    obtain ⟨d0, d1, l0⟩ := HBX.out _ hy1
    go_wp2_with fail
    refine (HFD.out _ (HX.out.trans hy1)).mono ?_
    rintro e w2 ⟨rp, rc, rfl, hown, hy2⟩
    have hz2 := hy1.trans hy2
    obtain ⟨d0, d1, l0⟩ := HBX.out _ hz2
    have HNT := Lib.hid (fun i (hi : i < P.cells.length) h => findTo_nth (t := t) (P := P.cells) hi h)
    have HY := Lib.hid (fun k h => findTo_yes (P := P.cells) (t := t) (k := k) h)
    have HN := Lib.hid (fun k h => findTo_no (P := P.cells) (t := t) (k := k) h)
    have hfl := findTo_len P.cells t P.cells.length
    obtain ⟨F, hF⟩ : ∃ F, findTo P.cells t P.cells.length = F := ⟨_, rfl⟩
    rw [hF] at hown HNT hfl
    rw [hF]
    have HFE := Lib.hid hF
    have HCL := Lib.hid (fun j (hj : j < F.length) i (hi : F[j]? = some i) => (by
      obtain ⟨gb, hgb, _, _⟩ := own_some hown (by omega)
      subst hgb
      refine ⟨gb, rfl, ?_⟩
      rw [hown.cellAt j (by omega)]
      unfold intCells
      rw [List.getElem?_map, hi]; rfl : ∃ gb, rp = some ⟨gb, 0, none⟩ ∧ w2.cell? ⟨gb, j, none⟩ = some (.int .i64 (i : Int))))
    clear hF hown
    go_wp2_with fail
    go_loopw [7, 8] (fun kv i wr => wr = w2 ∧ ∃ k m : Nat, k ≤ P.cells.length ∧ i = .int .i64 k ∧ kv = .int .i64 m ∧ Hid (m = (findTo P.cells t k).length) ∧ m ≤ k) (fun _ i _ => P.cells.length - (intOf i).toNat)
    case atStart => exact ⟨rfl, 0, 0, Nat.zero_le _, rfl, rfl, rfl, Nat.le_refl _⟩
    case round =>
      obtain ⟨rfl, k, m, hk, rfl, rfl, HM, hmk⟩ := hrel
      by_cases hlt : k < P.cells.length
      · obtain ⟨b, off, e0, hbw, k0, k1⟩ := (hP.mono (HX.out.trans hz2)).cells hlt
        have htg := hP.tags k hlt
        obtain ⟨bt, hm1, hm2⟩ := tag_bits ht htg
        have HNK := Lib.hid (HNT.out k hlt)
        have HYK := Lib.hid (HY.out k)
        have HNN := Lib.hid (HN.out k)
        obtain ⟨c, hc⟩ : ∃ c, cx P.cells k = c := ⟨_, rfl⟩
        rw [hc] at k0 htg hm1 hm2 HNK HYK HNN
        subst e0
        have HB2 := Lib.hid hm2
        clear hc hm2
        by_cases hq : t &&& c.tags = t
        · have hm0 : bt = 0 := HB2.out.2 hq
          subst hm0
          obtain ⟨h1, h2⟩ := HNK.out hq
          rw [← HM.out] at h1 h2
          obtain ⟨gb, e1, c1⟩ := HCL.out m h1 k h2
          subst e1
          have HS := Lib.hid (HYK.out hq)
          clear h2 hq HCL
          go_wp2_with fail
          refine ⟨⟨by first | trivial | rfl, k + 1, m + 1, by omega, by go_num, by go_num, ?_, by omega⟩, by simp [intOf]; omega⟩
          show m + 1 = _
          rw [HS.out, List.length_append, ← HM.out]; rfl
        · have gm : ((bt : Int) != 0) = true := by
            rw [bne_iff_ne]; intro h; exact hq (HB2.out.1 (by omega))
          have HS := Lib.hid (HNN.out hq)
          clear hq HCL
          go_wp2_with fail
          refine ⟨⟨by first | trivial | rfl, k + 1, m, by omega, by go_num, rfl, ?_, by omega⟩, by simp [intOf]; omega⟩
          show m = _
          rw [HS.out, ← HM.out]
      · have e : k = P.cells.length := by omega
        subst e
        have hm := HM.out
        rw [HFE.out] at hm
        subst hm
        clear HCL
        go_wp2_with fail
        go_ret
        exact ⟨by simp, HX.out.trans hz2⟩
end Go.Proofs.YtkmfhcjdaglikaaDoor
