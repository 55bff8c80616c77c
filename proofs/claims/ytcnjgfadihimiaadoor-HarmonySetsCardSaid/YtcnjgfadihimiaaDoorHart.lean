/- The law HarmonySets, walked. -/
import Derived.Test.YtcnjgfadihimiaaDoorHars
namespace Go.Cg
open Go.RowKit Go.Lib Go.Maps
/-- a part with five Qs behind it and one at its head -/
def qd (l : List Int) : List Int := (l ++ List.replicate 5 81).set 0 81
/-- the state in which the first t parts have been turned, and part t has k Qs more -/
structure QSt (B1 H2 H5 : Nat) (To Ti : TypeId) (v : Value) (w1 w5 : World) (ls : List (List Int)) (t k : Nat) (vs : List Value) (ls' : List (List Int)) (wr : World) : Prop where
  parts : PartsAt wr B1 To Ti v vs ls'
  ext : Ext w1 wr
  big : H5 ≤ wr.heap.size
  same : ∀ b, H2 ≤ b → b < H5 → wr.heap[b]? = w5.heap[b]?
  far : ∀ u, u < ls.length → ∀ g, (pv vs u).ownBlock = some g → g < H2 ∨ H5 ≤ g
  len : ls'.length = ls.length
  done : ∀ u, u < t → u < ls.length → pl ls' u = qd (pl ls u)
  now : t < ls.length → pl ls' t = pl ls t ++ List.replicate k 81
  later : ∀ u, t < u → u < ls.length → pl ls' u = pl ls u
section
variable {B1 H2 H5 : Nat} {To Ti : TypeId} {v : Value} {w1 w5 : World} {ls : List (List Int)} {t k : Nat} {vs : List Value} {ls' : List (List Int)} {wr : World}
theorem QSt.extend {w' : World} (h : QSt B1 H2 H5 To Ti v w1 w5 ls t k vs ls' wr) (hx : Ext wr w') : QSt B1 H2 H5 To Ti v w1 w5 ls t k vs ls' w' :=
  ⟨h.parts.ext hx, h.ext.trans hx, Nat.le_trans h.big hx.le, fun b h1 h2 => (hx.block b (Nat.lt_of_lt_of_le h2 h.big)).trans (h.same b h1 h2), h.far, h.len, h.done, h.now, h.later⟩
theorem QSt.push {w8 : World} {go c g cap : Nat} (hB1 : w1.heap.size ≤ B1) (hgo : go < H2) (h : QSt B1 H2 H5 To Ti (.slice (some ⟨go, 0, none⟩) ls.length c) w1 w5 ls t k vs ls' wr) (ht : t < ls.length)
    (ho : w8.ownsRow B1 Ti 1 (.slice (some ⟨g, 0, none⟩) ((pl ls' t).length + 1) cap) ((pl ls' t).length + 1) ((pl ls' t).map (Value.int .i32) ++ [.int .i32 81])) (hg : wr.grownBy w8 (pv vs t).ownBlock) (hn : (pv vs t).ownBlock = some g ∨ g = wr.heap.size) :
    QSt B1 H2 H5 To Ti (.slice (some ⟨go, 0, none⟩) ls.length c) w1 w5 ls t (k + 1) (vs.set t (.slice (some ⟨g, 0, none⟩) ((pl ls' t).length + 1) cap)) (ls'.set t (pl ls' t ++ [81])) (w8.setCell ⟨go, t, none⟩ (.slice (some ⟨g, 0, none⟩) ((pl ls' t).length + 1) cap)) := by
  have hl := h.len
  have hti : t < ls'.length := by omega
  have hvl : vs.length = ls.length := by rw [h.parts.len, hl]
  have hP := h.parts
  rw [← hvl] at hP
  have hQ := hP.push hti ho hg hn
  rw [hvl] at hQ
  have hgb : B1 ≤ go := (h.parts.out.lt go rfl).1
  refine ⟨hQ, (h.ext.grown hg fun j hj => Nat.le_trans hB1 (h.parts.blk hti j hj).1).setCell (by show w1.heap.size ≤ go; omega) _, ?_, fun b h1 h2 => ?_, fun u hu j hj => ?_, by rw [List.length_set]; exact hl, fun u hu hu2 => ?_, fun _ => ?_, fun u hu hu2 => ?_⟩
  · rw [size_setCell]; exact Nat.le_trans h.big hg.size
  · rw [Go.Deep.blk_setCell_other _ _ _ _ (show b ≠ go by omega)]
    refine (hg.block b (Nat.lt_of_lt_of_le h2 h.big) fun e => ?_).trans (h.same b h1 h2)
    have := h.far t ht b e.symm
    omega
  · rw [pv_set _ _ _ _ (by omega)] at hj
    by_cases e : u = t
    · rw [if_pos e] at hj
      simp only [Value.ownBlock, Option.some.injEq] at hj
      subst hj
      rcases hn with e2 | e2
      · exact h.far t ht _ e2
      · exact .inr (by rw [e2]; exact h.big)
    · rw [if_neg e] at hj
      exact h.far u hu j hj
  · rw [pl_set _ _ _ _ hti, if_neg (by omega)]; exact h.done u hu hu2
  · rw [pl_set _ _ _ _ hti, if_pos rfl, h.now ht, List.append_assoc, ← List.replicate_succ']
  · rw [pl_set _ _ _ _ hti, if_neg (by omega)]; exact h.later u hu hu2
theorem QSt.head {b c : Nat} (hB1 : w1.heap.size ≤ B1) (h : QSt B1 H2 H5 To Ti v w1 w5 ls t 5 vs ls' wr) (ht : t < ls.length) (hb : pv vs t = .slice (some ⟨b, 0, none⟩) (pl ls' t).length c) :
    QSt B1 H2 H5 To Ti v w1 w5 ls (t + 1) 0 vs (ls'.set t ((pl ls' t).set 0 81)) (wr.setCell ⟨b, 0, none⟩ (.int .i32 81)) := by
  have hl := h.len
  have hti : t < ls'.length := by omega
  obtain ⟨hQ, hg⟩ := h.parts.setHead hti hb 81
  have hob : (pv vs t).ownBlock = some b := by rw [hb]; rfl
  have hbb := (h.parts.blk hti b hob).1
  refine ⟨hQ, h.ext.setCell (by show w1.heap.size ≤ b; omega) _, by rw [size_setCell]; exact h.big, fun b' h1 h2 => ?_, h.far, by rw [List.length_set]; exact hl, fun u hu hu2 => ?_, fun h2 => ?_, fun u hu hu2 => ?_⟩
  · have := h.far t ht b hob
    rw [Go.Deep.blk_setCell_other _ _ _ _ (show b' ≠ b by omega)]
    exact h.same b' h1 h2
  · rw [pl_set _ _ _ _ hti]
    by_cases e : u = t
    · rw [if_pos e, e, h.now ht]; rfl
    · rw [if_neg e]; exact h.done u (by omega) hu2
  · rw [pl_set _ _ _ _ hti, if_neg (by omega), h.later (t + 1) (by omega) h2]; simp
  · rw [pl_set _ _ _ _ hti, if_neg (by omega)]; exact h.later u (by omega) hu2
end
theorem qd_len {l : List Int} : (qd l).length = l.length + 5 := by simp [qd]
theorem qd_at {l : List Int} {u : Nat} (h0 : 0 < u) (hu : u < l.length) : rn (qd l) u = rn l u := by
  rw [rn_eq (by rw [qd_len]; omega), rn_eq hu]
  unfold qd
  rw [List.getElem_set_ne (by omega), List.getElem_append_left hu]
/-- a row behind its first rune -/
theorem tail_runes {w : World} {b : Nat} {l m : List Int} (hb : b < w.heap.size) (hc : ∀ u, u < l.length → w.cell? ⟨b, u, none⟩ = some (.int .i32 (rn l u))) (hm : m.length ≤ l.length) (he : ∀ u, 0 < u → u < m.length → rn l u = rn m u) (h128 : m.length ≤ 128) (hw : ∀ u, u < m.length → -2147483648 ≤ rn m u ∧ rn m u ≤ 2147483647) : RunesAt w (some ⟨b, 1, none⟩) (m.drop 1) := by
  have hd : ∀ u, u < (m.drop 1).length → rn (m.drop 1) u = rn m (u + 1) := fun u hu => by
    have h1 : u + 1 < m.length := by simp at hu; omega
    rw [rn_eq hu, rn_eq h1, List.getElem_drop]
    congr 1; omega
  refine ⟨.inr ⟨b, 1, rfl, hb, fun u hu => ?_⟩, by simp; omega, fun u hu => ?_⟩
  · have h1 : u + 1 < m.length := by simp at hu; omega
    show _ = some (Value.int .i32 (rn (m.drop 1) u))
    rw [hd u hu, ← he (u + 1) (by omega) h1, show 1 + u = u + 1 by omega]
    exact hc (u + 1) (by omega)
  · have h1 : u + 1 < m.length := by simp at hu; omega
    rw [hd u hu]; exact hw _ h1
theorem nil_runes (w : World) (p : Option Addr) : RunesAt w p [] := ⟨.inl rfl, by simp, fun u hu => absurd hu (by simp)⟩
end Go.Cg
namespace Go.Proofs.YtcnjgfadihimiaaDoor
open Go.RowKit Go.Cg Go.Shelf Go.Maps

set_option maxRecDepth 100000 in
set_option maxHeartbeats 8000000 in
theorem harmonySets_any (fp lp : Option Addr) (fc lc : Nat) (A : Alpha) (p : Nat) (hp : p < 4294967296) (k : Nat) (hk : k < 4294967296) (w : World) (hA : AlphaAt w fp lp A) (hTb : Tabs w) :
    Calls Tryd.prog 5 #[.agg #[.slice fp A.feats.length fc, .slice lp A.lets.length lc], .int .u32 p, .int .u32 k] w fun e w' => e = .returned (.bool true) ∧ Ext w w' := by
  have hx0 : Ext w (w.alloc (.cells #[.slice fp A.feats.length fc, .slice lp A.lets.length lc] 26)) := (Ext.refl _).alloc _
  have HBX := Lib.hid (fun W (hW : Ext (w.alloc (.cells #[.slice fp A.feats.length fc, .slice lp A.lets.length lc] 26)) W) => (⟨hW.cell0 0, hW.cell0 1, hW.lt0⟩ : W.cell? ⟨w.heap.size, 0, none⟩ = some (.slice fp A.feats.length fc) ∧ W.cell? ⟨w.heap.size, 1, none⟩ = some (.slice lp A.lets.length lc) ∧ w.heap.size < W.heap.size))
  have HAL := Lib.hid (alive14_any _ (hTb.ext hx0))
  have h1 := fun W (hW : Ext w W) => sets_any fp lp fc lc A p k hp hk W (hA.mono hW)
  have h3 := fun W (hW : Ext w W) => Sets14_any fp lp fc lc A p k hp hk W (hA.mono hW) (hTb.ext hW)
  have hG := setsL_good hA p k
  obtain ⟨E, hE⟩ : ∃ E, setsE A p k = E := ⟨_, rfl⟩
  obtain ⟨ls, hls⟩ : ∃ ls, setsL A p k = ls := ⟨_, rfl⟩
  rw [hE, hls] at h1 h3
  rw [hls] at hG
  have H1 := Lib.hid h1
  have H3 := Lib.hid h3
  have HG := Lib.hid hG
  obtain ⟨ir, hir, hr0, hr1, hr2⟩ := info_parts infoRu
  clear h1 h3 hE hls hG
  go_enter Tryd.func5, Tryd.ntmps5
  go_wp2_with fail
  refine HAL.out.mono ?_
  rintro e w1 ⟨rfl, hx1⟩
  obtain ⟨d0, d1, l0⟩ := HBX.out _ hx1
  go_wp2_with fail
  refine (H1.out _ (hx0.trans hx1)).mono ?_
  rintro e w2 ⟨v1, vs1, rfl, P1, hx2⟩
  have hb2 := hx2.le
  have hX2 := hx2
  have hfar := fun u hu g hg => (P1.blk (i := u) hu g hg).2
  have hgo2 := fun g hg => (P1.out.lt g hg).2
  have hx2 := hx1.trans hx2
  obtain ⟨d0, d1, l0⟩ := HBX.out _ hx2
  go_wp2_with fail
  refine (H1.out _ (hx0.trans hx2)).mono ?_
  rintro e w3 ⟨v2, vs2, rfl, P2, hx3⟩
  have hb3 := hx3.le
  have P1 := P1.ext hx3
  have hX3 := hX2.trans hx3
  have hx3 := hx2.trans hx3
  obtain ⟨d0, d1, l0⟩ := HBX.out _ hx3
  go_wp2_with fail
  refine (H3.out _ (hx0.trans hx3)).mono ?_
  rintro e w4 ⟨v3, vs3, rfl, P3, hx4⟩
  have hb4 := hx4.le
  have P1 := P1.ext hx4
  have P2 := P2.ext hx4
  have hX4 := hX3.trans hx4
  have hx4 := hx3.trans hx4
  clear d0 d1 l0
  go_wp2_with fail
  refine (parts_any _ _ v1 v3 vs1 vs3 ls HG.out w4 P1 P3).mono ?_
  rintro e w5 ⟨rfl, hx5⟩
  have hb5 := hx5.le
  have P1 := P1.ext hx5
  have P2 := P2.ext hx5
  have P3 := P3.ext hx5
  have hX5 := hX4.trans hx5
  obtain ⟨p1, c1, e1⟩ := ownsRow_slice P1.out
  rw [P1.len] at e1
  subst e1
  obtain ⟨p3, c3, e3⟩ := ownsRow_slice P3.out
  rw [P3.len] at e3
  subst e3
  have HQ0 := Lib.hid (⟨P1, hX5, Nat.le_refl _, fun _ _ _ => rfl, fun u hu g hg => .inl (hfar u hu g hg), rfl, fun u hu => absurd hu (by omega), fun _ => by simp, fun _ _ _ => rfl⟩ : QSt w1.heap.size w2.heap.size w5.heap.size 41 21 (.slice p1 ls.length c1) w1 w5 ls 0 0 vs1 ls w5)
  have HP2 := Lib.hid P2
  have HP3 := Lib.hid P3
  have HGO := Lib.hid hgo2
  have hw1 := hx0.trans hx1
  have hf := HG.out.few
  obtain ⟨N, hN⟩ : ∃ N, ls.length = N := ⟨_, rfl⟩
  have HN := Lib.hid hN
  rw [hN] at hf ⊢
  clear P1 P2 P3 hX2 hX3 hX4 hX5 hx2 hx3 hx4 hx5 hfar hgo2 hN
  go_wp2_with fail
  go_loopw [15, 16] (fun i _ wr => ∃ (t : Nat) (vs : List Value) (ls' : List (List Int)), t ≤ N ∧ i = .int .i64 t ∧ Hid (QSt w1.heap.size w2.heap.size w5.heap.size 41 21 (.slice p1 ls.length c1) w1 w5 ls t 0 vs ls' wr)) (fun i _ _ => N - (intOf i).toNat)
  case atStart => exact ⟨0, vs1, ls, Nat.zero_le _, rfl, HQ0.out⟩
  case round =>
    obtain ⟨t, vsA, lsA, ht, rfl, HQA⟩ := hrel
    by_cases hlt : t < N
    · have htl : t < ls.length := by rw [HN.out]; exact hlt
      have HTL := Lib.hid htl
      have h128 := (HG.out.some_ t htl).2
      have hpos := (HG.out.some_ t htl).1
      clear htl
      go_wp2_with fail
      go_loopw [16] (fun q wq => ∃ (k : Nat) (vs : List Value) (ls' : List (List Int)), k ≤ 5 ∧ q = .int .i64 k ∧ Hid (QSt w1.heap.size w2.heap.size w5.heap.size 41 21 (.slice p1 ls.length c1) w1 w5 ls t k vs ls' wq)) (fun q _ => 5 - (intOf q).toNat)
      case atStart => exact ⟨0, vsA, lsA, by omega, rfl, HQA.out⟩
      case round =>
        obtain ⟨q, vs, ls', hq, rfl, HQ⟩ := hrel
        have hti : t < ls'.length := by rw [HQ.out.len]; exact HTL.out
        obtain ⟨go, gc, ho, hgb, hgl, hgc, hgf⟩ := HQ.out.parts.cell hti
        simp only [Value.slice.injEq] at ho
        obtain ⟨ho1, ho2, ho3⟩ := ho
        subst ho1
        subst ho3
        have hgo2 := HGO.out go rfl
        have hnow := HQ.out.now HTL.out
        have hln : (pl ls' t).length = (pl ls t).length + q := by rw [hnow]; simp
        have hti0 : (0 : Int) ≤ (t : Int) := by omega
        by_cases hq5 : q < 5
        · obtain ⟨pp, pc, hpp⟩ := HQ.out.parts.part hti
          have hrw := HQ.out.parts.row t hti
          have hap := fun g hg => (HQ.out.parts.apart t hti g hg).1
          have hblk := HQ.out.parts.blk hti
          rw [hpp] at hgc hrw hap hblk
          have hne0 : some go ≠ (Value.slice pp (pl ls' t).length pc).ownBlock := fun e => hap go e.symm rfl
          have HNE := Lib.hid hne0
          have HRW := Lib.hid hrw
          have hgcX := hgc
          have HCX := Lib.hid hgcX
          have HFX := Lib.hid hgf
          have HPP := Lib.hid hpp
          have hl133 : (pl ls' t).length ≤ 133 := by omega
          have hQE := HQ.out.extend ((Ext.refl wr).alloc (.cells #[.int .i32 81] 21))
          have HQE := Lib.hid hQE
          have hbig := HQ.out.ext.le
          clear hrw hap hblk hne0 hgcX hpp hnow hln hQE ho2 hgf
          go_wp2_with (at_builtin; go_loud (refine wpList_append_lies _ rfl _ _ 41 rfl w1.heap.size 21 ir (.int .i32 0) 1 4 Tryd.underlying41 hir hr0 hr1 hr2 rfl (by decide) (.slice pp (pl ls' t).length pc) (pl ls' t).length ((pl ls' t).map (Value.int .i32)) rfl (ownsRow_ext HRW.out ((Ext.refl _).alloc _)) ⟨wr.heap.size, 0, none⟩ 1 1 [.int .i32 81] rfl rfl (one_cell _ _ _) (by simp [Value.oneCell']) (by decide) (by unfold maxLen; omega) (by omega) (by simp; omega) _ rfl ?_); intro g cap w8 hrow8 hg8 hn8 hl8; have c9 := hg8.cell ((((Ext.refl wr).alloc (.cells #[.int .i32 81] 21)).facts.1 go t hgl).trans HCX.out) HNE.out; have f9 := (hg8.frozen_far ⟨go, t, none⟩ (by simp; omega) HNE.out).trans ((((Ext.refl wr).alloc (.cells #[.int .i32 81] 21)).facts.2.1 go t hgl).trans HFX.out))
          refine ⟨⟨q + 1, _, _, by omega, by go_num, QSt.push (Nat.le_refl _) hgo2 HQE.out HTL.out hrow8 (by rw [HPP.out]; exact hg8) (by rw [HPP.out]; exact hn8)⟩, by simp [intOf]; omega⟩
        · have e : q = 5 := by omega
          subst e
          obtain ⟨b, c, hbe, hb1, hb2, hbc⟩ := HQ.out.parts.elem hti (by omega)
          have hrow := HQ.out.parts.row t hti
          rw [hbe] at hrow hgc
          have f0 := hrow.frozenAt 0
          have b0 := hbc 0 (by omega)
          have HH := Lib.hid (HQ.out.head (Nat.le_refl _) HTL.out hbe)
          have hlz : (0 : Int) < ((pl ls' t).length : Int) := by omega
          clear hbe hrow hbc hnow hln ho2
          go_wp2_with fail
          exact ⟨⟨t + 1, _, _, by omega, by go_num, HH.out⟩, by simp [intOf]; omega⟩
    · have e : N = t := by omega
      subst e
      obtain ⟨wX, hwX⟩ : ∃ wX, wr = wX := ⟨_, rfl⟩
      rw [hwX] at HQA ⊢
      clear hwX
      go_wp2_with fail
      go_loopw [17] (fun i wq => ∃ t : Nat, t ≤ N ∧ i = .int .i64 t ∧ Ext wX wq) (fun i _ => N - (intOf i).toNat)
      case atStart => exact ⟨0, Nat.zero_le _, rfl, Ext.refl _⟩
      case round =>
        obtain ⟨t, ht, rfl, hy⟩ := hrel
        have PW := (HP3.out.same (fun b h1 h2 => HQA.out.same b (by omega) h2)).ext hy
        by_cases hlt : t < N
        · have htl : t < ls.length := by rw [HN.out]; exact hlt
          have hti : t < lsA.length := by rw [HQA.out.len]; exact htl
          have PL := HQA.out.parts.ext hy
          have hdn := HQA.out.done t (by omega) htl
          obtain ⟨hM1, hM2⟩ := HG.out.some_ t htl
          obtain ⟨go, gc, ho, hgb, hgl, x1, _⟩ := PL.cell hti
          simp only [Value.slice.injEq] at ho
          obtain ⟨ho1, ho2, ho3⟩ := ho
          subst ho1
          subst ho3
          obtain ⟨go3, gc3, ho, _, _, x3, _⟩ := PW.cell htl
          simp only [Value.slice.injEq] at ho
          obtain ⟨ho1, ho4, ho3⟩ := ho
          subst ho1
          subst ho3
          have hql : (pl lsA t).length = (pl ls t).length + 5 := by rw [hdn, qd_len]
          obtain ⟨b1, d1, q1, _, hb1, r1⟩ := PL.elem hti (by omega)
          obtain ⟨b3, d3, q3, _, hb3, r3⟩ := PW.elem htl hM1
          rw [q1] at x1
          rw [q3] at x3
          have hr1 := PL.row t hti
          have hr3 := PW.row t htl
          rw [q1] at hr1
          rw [q3] at hr3
          have hd1 : (pl lsA t).length ≤ d1 := by
            rcases hr1.2 with ⟨h, _⟩ | ⟨g, cap, cur, h, _, _, h5, _⟩
            · cases h
            · cases h; exact h5
          have hd3 : (pl ls t).length ≤ d3 := by
            rcases hr3.2 with ⟨h, _⟩ | ⟨g, cap, cur, h, _, _, h5, _⟩
            · cases h
            · cases h; exact h5
          have R1 := tail_runes (m := pl ls t) hb1 r1 (by omega) (fun u h0 hu => by rw [hdn]; exact qd_at h0 hu) hM2 (HG.out.wf t htl)
          have R3 := tail_runes (m := pl ls t) hb3 r3 (Nat.le_refl _) (fun u _ _ => rfl) hM2 (HG.out.wf t htl)
          have t1 := fun W (hW : Ext wr W) => (R1.mono hW).text (P := Tryd.prog) (src := 41) (dst := 9) Tryd.underlying41 Tryd.underlying21 Tryd.underlying9 (d1 - 1)
          have hti0 : (0 : Int) ≤ (t : Int) := by omega
          rw [hql] at x1 hd1
          by_cases hd31 : d3 = 1
          · subst hd31
            have hM1' : (pl ls t).length = 1 := by omega
            have hnil : (pl ls t).drop 1 = [] := List.eq_nil_of_length_eq_zero (by rw [List.length_drop]; omega)
            have t3 := fun W => (nil_runes W (some ⟨b3, 0, none⟩)).text (P := Tryd.prog) (src := 41) (dst := 9) Tryd.underlying41 Tryd.underlying21 Tryd.underlying9 0
            rw [hnil] at t1
            obtain ⟨T, hT⟩ : ∃ T, runesBytes [] = T := ⟨_, rfl⟩
            rw [hT] at t1 t3
            simp only [List.length_nil] at t1 t3
            rw [hM1'] at x1 x3 hd1
            clear hT hM1' hnil R1 R3 r1 r3 hr1 hr3 hql q1 q3 hdn PL PW htl hti hM1 hM2
            have t3' := fun W (_ : Ext wr W) => t3 W
            clear t3
            go_wp2_with fail
            (refine wp_region_ext (by kernel_rfl) (by kernel_rfl) ?_; intro ι hι g hg; have q_x1 := hg.cell x1; have q_x3 := hg.cell x3; have q_t1 := fun i => t1 _ (hg.ext i); have q_t3' := fun i => t3' _ (hg.ext i); clear x1 x3 t1 t3'; (repeat (go_big_quiet_step (fail))); refine wpQuiet_nil ?_; rintro w8 ⟨i2, rfl⟩; have hq := hg.ext i2; generalize g i2 = w8 at hq ⊢; clear q_x1 q_x3 q_t1 q_t3' i2 hg g hι ι)
            go_wp2_with fail
            exact ⟨⟨t + 1, by omega, by go_num, hy.trans hq⟩, by simp [intOf]; omega⟩
          · have t3 := fun W (hW : Ext wr W) => (R3.mono hW).text (P := Tryd.prog) (src := 41) (dst := 9) Tryd.underlying41 Tryd.underlying21 Tryd.underlying9 (d3 - 1)
            obtain ⟨T, hT⟩ : ∃ T, runesBytes ((pl ls t).drop 1) = T := ⟨_, rfl⟩
            rw [hT, List.length_drop] at t1 t3
            obtain ⟨M, hM⟩ : ∃ M, (pl ls t).length = M := ⟨_, rfl⟩
            rw [hM] at t1 t3 x1 x3 hM1 hM2 hd1 hd3
            have hd13 : 1 < d3 := by omega
            have hd32 : ¬ 1 = d3 := by omega
            clear hT hM R1 R3 r1 r3 hr1 hr3 hql q1 q3 hdn PL PW htl hti
            go_wp2_with fail
            (refine wp_region_ext (by kernel_rfl) (by kernel_rfl) ?_; intro ι hι g hg; have q_x1 := hg.cell x1; have q_x3 := hg.cell x3; have q_t1 := fun i => t1 _ (hg.ext i); have q_t3 := fun i => t3 _ (hg.ext i); clear x1 x3 t1 t3; (repeat (go_big_quiet_step (fail))); refine wpQuiet_nil ?_; rintro w8 ⟨i2, rfl⟩; have hq := hg.ext i2; generalize g i2 = w8 at hq ⊢; clear q_x1 q_x3 q_t1 q_t3 i2 hg g hι ι)
            go_wp2_with fail
            exact ⟨⟨t + 1, by omega, by go_num, hy.trans hq⟩, by simp [intOf]; omega⟩
        · have e : N = t := by omega
          subst e
          have PM := (HP2.out.same (fun b h1 h2 => HQA.out.same b (by omega) h2)).ext hy
          have hpp := parts_any _ _ v2 (.slice p3 ls.length c3) vs2 vs3 ls HG.out wr PM PW
          rw [HN.out] at hpp
          have HPP := Lib.hid hpp
          have hew := (hw1.trans HQA.out.ext).trans hy
          clear hpp PM PW
          go_wp2_with fail
          refine HPP.out.mono ?_
          rintro e w9 ⟨rfl, hx9⟩
          go_wp2_with fail
          go_ret
          exact ⟨rfl, hew.trans hx9⟩

end Go.Proofs.YtcnjgfadihimiaaDoor
