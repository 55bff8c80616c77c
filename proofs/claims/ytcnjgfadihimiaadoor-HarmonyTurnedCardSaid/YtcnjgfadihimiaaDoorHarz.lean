/- The law HarmonyTurned, walked. -/
import Derived.Test.YtcnjgfadihimiaaDoorHary
namespace Go.Cg
open Go.RowKit Go.Lib
theorem la_rev {L : List Letter} {i : Nat} (h : i < L.length) : la L.reverse i = la L (L.length - 1 - i) := by
  rw [la_eq (by simpa using h), la_eq (by omega), List.getElem_reverse]
theorem ltr_turn {A : Alpha} {s : ByteArray} (h : ltrE A s = 0) : ltr A (turnS A s) = (ltr A s).reverse ∧ ltrE A (turnS A s) = 0 := by
  obtain ⟨hok, _, hin, h64⟩ := ltr_ok h
  rw [show turnS A s = runesBytes (ltr A s).reverse from if_pos h]
  exact ltr_rb hok (fun r hr => hin r (List.mem_reverse.1 hr)) (by rw [List.length_reverse]; exact h64)
theorem sgn_turn {A : Alpha} {s : ByteArray} (h : ltrE A s = 0) : sgn A (turnS A s) = (sgn A s).reverse := by
  unfold sgn; rw [(ltr_turn h).1, List.map_reverse]
theorem signE_turn {A : Alpha} {s : ByteArray} {ms : List Nat} (h : signE A s ms = 0) : signE A (turnS A s) ms = 0 := by
  obtain ⟨h1, h2⟩ := signE_zero h
  unfold signE
  rw [(ltr_turn h1).2, if_neg (by decide)]; exact h2
theorem lastI_to {L : List Letter} {p : Nat} : ∀ r, r ≤ L.length → (∀ j, r ≤ j → j < L.length → ofB (la L j) p = false) → (∀ j, j < L.length → ofB (la L j) p = false) ∨ ∃ i, i < L.length ∧ ofB (la L i) p = true ∧ ∀ j, i < j → j < L.length → ofB (la L j) p = false
  | 0, _, h => .inl fun j hj => h j (Nat.zero_le _) hj
  | r + 1, hr, h => by
    cases hB : ofB (la L r) p
    · refine lastI_to r (by omega) fun j h1 h2 => ?_
      by_cases e : j = r
      · subst e; exact hB
      · exact h j (by omega) h2
    · exact .inr ⟨r, by omega, hB, fun j h1 h2 => h j (by omega) h2⟩
theorem lastI_cases (L : List Letter) (p : Nat) : (lastI L p = none ∧ ∀ j, j < L.length → ofB (la L j) p = false) ∨ ∃ i, lastI L p = some i ∧ i < L.length ∧ ofB (la L i) p = true ∧ ∀ j, i < j → j < L.length → ofB (la L j) p = false := by
  rcases lastI_to (L := L) (p := p) L.length (Nat.le_refl _) (fun j h1 h2 => absurd h2 (by omega)) with h | ⟨i, h1, h2, h3⟩
  · exact .inl ⟨lastI_no h, h⟩
  · exact .inr ⟨i, lastI_at h1 h3 h2, h1, h2, h3⟩
theorem firstI_rev (L : List Letter) (p : Nat) : firstI L.reverse p = (lastI L p).map fun i => L.length - 1 - i := by
  rcases lastI_cases L p with ⟨h1, h2⟩ | ⟨i, h1, h2, h3, h4⟩
  · rw [h1]
    exact firstI_none fun j hj => by
      rw [List.length_reverse] at hj
      rw [la_rev hj]; exact h2 _ (by omega)
  · rw [h1]
    show firstI L.reverse p = some (L.length - 1 - i)
    refine firstI_at (by rw [List.length_reverse]; omega) (fun j hj => ?_) ?_
    · rw [la_rev (by omega)]; exact h4 _ (by omega) (by omega)
    · rw [la_rev (by omega), show L.length - 1 - (L.length - 1 - i) = i by omega]; exact h3
theorem sprL_rev {A : Alpha} {L : List Letter} {p k f : Nat} (hf : f < L.length) : (sprL A L.reverse p k (L.length - 1 - f)).reverse = sprL A L p k f := by
  unfold sprL
  apply List.ext_getElem (by simp)
  intro i h1 h2
  have hi : i < L.length := by simpa using h2
  simp only [List.getElem_reverse, List.getElem_map, List.getElem_range, List.length_map, List.length_range, List.length_reverse]
  unfold sprR
  rw [la_rev (by omega), la_rev (by omega), show L.length - 1 - (L.length - 1 - i) = i by omega, show L.length - 1 - (L.length - 1 - f) = f by omega]
  by_cases e : i = f
  · subst e
    rw [if_neg (fun h => h.1 rfl), if_neg (fun h => h.1 rfl)]
  · by_cases hB : ofB (la L i) p = true
    · rw [if_pos ⟨by omega, hB⟩, if_pos ⟨e, hB⟩]
    · rw [if_neg (fun h => hB h.2), if_neg (fun h => hB h.2)]
theorem back_turned {A : Alpha} {s : ByteArray} {p k : Nat} (h : signE A s [p, k] = 0) : turnS A (sprS A (turnS A s) p k) = backS A s p k ∧ ltrE A (sprS A (turnS A s) p k) = 0 := by
  have hl0 := (signE_zero h).1
  obtain ⟨h1, h2⟩ := sprS_ltr (signE_turn h)
  refine ⟨?_, h2⟩
  rw [show turnS A (sprS A (turnS A s) p k) = runesBytes (ltr A (sprS A (turnS A s) p k)).reverse from if_pos h2, h1]
  unfold backS
  rw [if_pos h]
  unfold sprM
  rw [sgn_turn hl0, firstI_rev]
  rcases lastI_cases (sgn A s) p with ⟨h3, _⟩ | ⟨i, h3, h4, _, _⟩
  · rw [h3]
    show runesBytes (ltr A (turnS A s)).reverse = s
    rw [(ltr_turn hl0).1, List.reverse_reverse]
    exact (ltr_ok hl0).2.1
  · rw [h3]
    show runesBytes (sprL A (sgn A s).reverse p k ((sgn A s).length - 1 - i)).reverse = runesBytes (sprL A (sgn A s) p k i)
    rw [sprL_rev h4]
theorem takR_same {A : Alpha} {x y : Letter} {k : Nat} (h : al2 x y k = true) : takR A x y k = x.rune := by
  unfold al2 at h
  simp only [decide_eq_true_eq] at h
  unfold takR
  rw [if_pos]
  unfold likeB
  rw [decide_eq_true_eq, ← h.1, ← h.2]
  constructor
  · rw [Nat.and_comm x.plus k, Nat.and_assoc, Nat.and_self]
  · rw [Nat.and_comm x.minus k, Nat.and_assoc, Nat.and_self]
theorem keeps_same {A : Alpha} {s : ByteArray} {p k : Nat} (h : signE A s [p, k] = 0) (hk : keepsB A s p k = true) : sprS A s p k = s ∧ backS A s p k = s := by
  have hl0 := (signE_zero h).1
  have hkl : keepL (sgn A s) p k = true := by unfold keepsB at hk; rwa [if_pos h] at hk
  rw [keepL_iff] at hkl
  have hall : ∀ f, f < (sgn A s).length → ofB (la (sgn A s) f) p = true → runesBytes (sprL A (sgn A s) p k f) = s := fun f hf hB => by
    refine sprL_same hl0 fun i hi => ?_
    unfold sprR
    split
    · rename_i hc
      exact takR_same (al2_trans (hkl _ (mem_cls.2 ⟨i, hi, rfl, hc.2⟩)) (hkl _ (mem_cls.2 ⟨f, hf, rfl, hB⟩)))
    · rfl
  refine ⟨?_, ?_⟩
  · unfold sprS
    rw [if_pos h]
    cases hf : firstI (sgn A s) p with
    | none => rfl
    | some f =>
      have := List.findIdx?_eq_some_iff_getElem.1 hf
      obtain ⟨h1, h2, _⟩ := this
      exact hall f h1 (by rw [la_eq h1]; exact h2)
  · unfold backS
    rw [if_pos h]
    rcases lastI_cases (sgn A s) p with ⟨h3, _⟩ | ⟨i, h3, h4, h5, _⟩
    · rw [h3]; rfl
    · rw [h3]; exact hall i h4 h5
end Go.Cg
namespace Go.Proofs.YtcnjgfadihimiaaDoor
open Go.RowKit Go.Cg Go.Shelf Go.Maps

set_option maxRecDepth 100000 in
set_option maxHeartbeats 8000000 in
theorem harmonyTurned_any (fp lp : Option Addr) (fc lc : Nat) (A : Alpha) (s : ByteArray) (hs : s.size ≤ 140737488351232) (p : Nat) (hp : p < 4294967296) (k : Nat) (hk : k < 4294967296) (w : World) (hA : AlphaAt w fp lp A) (hTb : Tabs w) :
    Calls Tryd.prog 8 #[.agg #[.slice fp A.feats.length fc, .slice lp A.lets.length lc], .string s, .int .u32 p, .int .u32 k] w fun e w' => e = .returned (.bool true) ∧ Ext w w' := by
  have hx0 : Ext w (w.alloc (.cells #[.slice fp A.feats.length fc, .slice lp A.lets.length lc] 26)) := (Ext.refl _).alloc _
  have HBX := Lib.hid (fun W (hW : Ext (w.alloc (.cells #[.slice fp A.feats.length fc, .slice lp A.lets.length lc] 26)) W) => (⟨hW.cell0 0, hW.cell0 1, hW.lt0⟩ : W.cell? ⟨w.heap.size, 0, none⟩ = some (.slice fp A.feats.length fc) ∧ W.cell? ⟨w.heap.size, 1, none⟩ = some (.slice lp A.lets.length lc) ∧ w.heap.size < W.heap.size))
  have HAL := Lib.hid (alive14_any _ (hTb.ext hx0))
  by_cases hl : 2000 < s.size
  · have gl : decide ((2000 : Int) < (s.size : Int)) = true := by simp; omega
    go_enter Tryd.func8, Tryd.ntmps8
    go_wp2_with fail
    refine HAL.out.mono ?_
    rintro e w1 ⟨rfl, hx1⟩
    go_wp2_with fail
    go_ret
    exact ⟨rfl, hx0.trans hx1⟩
  · have gl : decide ((2000 : Int) < (s.size : Int)) = false := by simp; omega
    have h1 := fun W (hW : Ext w W) => back_any fp lp fc lc A s hs p k hp hk W (hA.mono hW) (hTb.ext hW)
    have h2 := fun W (hW : Ext w W) => spreadW_any fp lp fc lc A s hs p k hp hk W (hA.mono hW) (hTb.ext hW)
    have h3 := fun W (hW : Ext w W) => keeps_any fp lp fc lc A s hs p k hp hk W (hA.mono hW) (hTb.ext hW)
    by_cases h0 : signE A s [p, k] = 0
    · have hl0 := (signE_zero h0).1
      have hsz : ∀ t : ByteArray, ltrE A t = 0 → t.size ≤ 140737488351232 := fun t ht => by
        obtain ⟨_, e, _, h6⟩ := ltr_ok ht
        rw [← e]
        have := rb_size_le (ltr A t)
        omega
      obtain ⟨t1, t2⟩ := ltr_turn hl0
      obtain ⟨t3, t4⟩ := back_turned h0
      have h4 := fun W (hW : Ext w W) => turned_any fp lp fc lc A s hs W (hA.mono hW) (hTb.ext hW)
      have h5 := fun W (hW : Ext w W) => spreadW_any fp lp fc lc A (turnS A s) (hsz _ t2) p k hp hk W (hA.mono hW) (hTb.ext hW)
      have h6 := fun W (hW : Ext w W) => turned_any fp lp fc lc A (sprS A (turnS A s) p k) (hsz _ t4) W (hA.mono hW) (hTb.ext hW)
      have hks := fun hk => keeps_same (k := k) h0 hk
      rw [h0] at h1 h2 h3
      rw [hl0] at h4
      rw [signE_turn h0] at h5
      rw [t3, t4] at h6
      obtain ⟨B, e1⟩ : ∃ x, backS A s p k = x := ⟨_, rfl⟩
      obtain ⟨S, e2⟩ : ∃ x, sprS A s p k = x := ⟨_, rfl⟩
      obtain ⟨K, e3⟩ : ∃ x, keepsB A s p k = x := ⟨_, rfl⟩
      obtain ⟨V, e4⟩ : ∃ x, turnS A s = x := ⟨_, rfl⟩
      obtain ⟨T, e5⟩ : ∃ x, sprS A (turnS A s) p k = x := ⟨_, rfl⟩
      rw [e1] at h1 h6 hks
      rw [e2] at h2 hks
      rw [e3] at h3 hks
      rw [e5] at h5 h6
      rw [e4] at h4 h5
      have H1 := Lib.hid h1
      have H2 := Lib.hid h2
      have H3 := Lib.hid h3
      have H4 := Lib.hid h4
      have H5 := Lib.hid h5
      have H6 := Lib.hid h6
      have HK := Lib.hid hks
      clear h0 h1 h2 h3 h4 h5 h6 hks e1 e2 e3 e4 e5 hl hl0 hsz t1 t2 t3 t4
      cases K
      all_goals (try (obtain ⟨rfl, rfl⟩ := HK.out rfl))
      all_goals clear HK
      all_goals (
        go_enter Tryd.func8, Tryd.ntmps8
        go_wp2_with fail
        refine HAL.out.mono ?_
        rintro e w1 ⟨rfl, hx1⟩
        obtain ⟨d0, d1, l0⟩ := HBX.out _ hx1
        go_wp2_with fail
        refine (H1.out _ (hx0.trans hx1)).mono ?_
        rintro e w2 ⟨rfl, hx2⟩
        have hx2 := hx1.trans hx2
        obtain ⟨d0, d1, l0⟩ := HBX.out _ hx2
        go_wp2_with fail
        refine (H2.out _ (hx0.trans hx2)).mono ?_
        rintro e w3 ⟨rfl, hx3⟩
        have hx3 := hx2.trans hx3
        obtain ⟨d0, d1, l0⟩ := HBX.out _ hx3
        go_wp2_with fail
        refine (H3.out _ (hx0.trans hx3)).mono ?_
        rintro e w4 ⟨rfl, hx4⟩
        have hx4 := hx3.trans hx4
        obtain ⟨d0, d1, l0⟩ := HBX.out _ hx4
        go_wp2_with fail
        refine (H4.out _ (hx0.trans hx4)).mono ?_
        rintro e w5 ⟨rfl, hx5⟩
        have hx5 := hx4.trans hx5
        obtain ⟨d0, d1, l0⟩ := HBX.out _ hx5
        go_wp2_with fail
        refine (H5.out _ (hx0.trans hx5)).mono ?_
        rintro e w6 ⟨rfl, hx6⟩
        have hx6 := hx5.trans hx6
        obtain ⟨d0, d1, l0⟩ := HBX.out _ hx6
        go_wp2_with fail
        refine (H6.out _ (hx0.trans hx6)).mono ?_
        rintro e w7 ⟨rfl, hx7⟩
        have hx7 := hx6.trans hx7
        go_wp2_with fail
        go_ret
        exact ⟨rfl, hx0.trans hx7⟩)
    · rw [show backS A s p k = ⟨#[]⟩ from if_neg h0] at h1
      rw [show sprS A s p k = ⟨#[]⟩ from if_neg h0] at h2
      rw [show keepsB A s p k = false from if_neg h0] at h3
      have gE : (signE A s [p, k] != 0) = true := by rw [bne_iff_ne]; exact h0
      obtain ⟨E, hE⟩ : ∃ E, signE A s [p, k] = E := ⟨_, rfl⟩
      rw [hE] at h1 h2 h3 gE
      have H1 := Lib.hid h1
      have H2 := Lib.hid h2
      have H3 := Lib.hid h3
      clear h0 h1 h2 h3 hE hl
      go_enter Tryd.func8, Tryd.ntmps8
      go_wp2_with fail
      refine HAL.out.mono ?_
      rintro e w1 ⟨rfl, hx1⟩
      obtain ⟨d0, d1, l0⟩ := HBX.out _ hx1
      go_wp2_with fail
      refine (H1.out _ (hx0.trans hx1)).mono ?_
      rintro e w2 ⟨rfl, hx2⟩
      have hx2 := hx1.trans hx2
      obtain ⟨d0, d1, l0⟩ := HBX.out _ hx2
      go_wp2_with fail
      refine (H2.out _ (hx0.trans hx2)).mono ?_
      rintro e w3 ⟨rfl, hx3⟩
      have hx3 := hx2.trans hx3
      obtain ⟨d0, d1, l0⟩ := HBX.out _ hx3
      go_wp2_with fail
      refine (H3.out _ (hx0.trans hx3)).mono ?_
      rintro e w4 ⟨rfl, hx4⟩
      go_wp2_with fail
      go_ret
      exact ⟨rfl, (hx0.trans hx3).trans hx4⟩

end Go.Proofs.YtcnjgfadihimiaaDoor
