/- Contracts: slices.Reverse at runes, word.Turned; plain laws of words turned round. -/
import Derived.Test.YtcnjgfadihimiaaDoorHaru
import Derived.Laws.OwnMore
import Derived.RegionTactic
namespace Go.Cg
open Go.RowKit Go.Lib
/-- rune t of a row whose first i runes are exchanged with its last i ones -/
def revAt (l : List Int) (i t : Nat) : Int := if t < i ∨ l.length - 1 - i < t then rn l (l.length - 1 - t) else rn l t
def revTo (l : List Int) (i : Nat) : List Int := (List.range l.length).map (revAt l i)
theorem revTo_len (l : List Int) (i : Nat) : (revTo l i).length = l.length := by simp [revTo]
theorem revTo_zero (l : List Int) : revTo l 0 = l := by
  unfold revTo
  apply List.ext_getElem (by simp)
  intro t h1 h2
  simp only [List.getElem_map, List.getElem_range]
  unfold revAt
  rw [if_neg (by omega), rn_eq h2]
theorem revTo_end {l : List Int} {i : Nat} (h : l.length ≤ 2 * i + 1) : revTo l i = l.reverse := by
  unfold revTo
  apply List.ext_getElem (by simp)
  intro t h1 h2
  have ht : t < l.length := by simpa using h2
  simp only [List.getElem_map, List.getElem_range, List.getElem_reverse]
  unfold revAt
  split
  · rw [rn_eq (by omega)]
  · have e : l.length - 1 - t = t := by omega
    simp only [e]
    rw [rn_eq ht]
theorem revTo_step {l : List Int} {i j : Nat} (hij : i < j) (hj : j + i + 1 = l.length) : revTo l (i + 1) = ((revTo l i).set i (rn l j)).set j (rn l i) := by
  apply List.ext_getElem (by simp [revTo])
  intro t h1 h2
  have ht : t < l.length := by simpa [revTo] using h1
  rw [List.getElem_set, List.getElem_set]
  simp only [revTo, List.getElem_map, List.getElem_range]
  unfold revAt
  by_cases e1 : j = t
  · subst e1
    rw [if_pos rfl, if_pos (by omega), show l.length - 1 - j = i by omega]
  · rw [if_neg e1]
    by_cases e2 : i = t
    · subst e2
      rw [if_pos rfl, if_pos (by omega), show l.length - 1 - i = j by omega]
    · rw [if_neg e2]
      by_cases c : t < i ∨ l.length - 1 - i < t
      · rw [if_pos c, if_pos (by omega)]
      · rw [if_neg c, if_neg (by omega)]
theorem revTo_at {l : List Int} {i t : Nat} (ht : t < l.length) (h1 : i ≤ t) (h2 : t ≤ l.length - 1 - i) : rn (revTo l i) t = rn l t := by
  rw [rn_eq (by rw [revTo_len]; exact ht)]
  simp only [revTo, List.getElem_map, List.getElem_range]
  unfold revAt
  rw [if_neg (by omega)]
theorem map_set (l : List Int) (i : Nat) (x : Int) : (l.set i x).map (Value.int .i32) = (l.map (Value.int .i32)).set i (.int .i32 x) := List.map_set ..
/-- a word turned round -/
def turnS (A : Alpha) (s : ByteArray) : ByteArray := if ltrE A s = 0 then runesBytes (ltr A s).reverse else ⟨#[]⟩
end Go.Cg
namespace Go.Proofs.YtcnjgfadihimiaaDoor
open Go.RowKit Go.Cg Go.Shelf Go.Maps

set_option maxRecDepth 100000 in
set_option maxHeartbeats 4000000 in
theorem rev_any (B : Nat) (rp : Option Addr) (rc : Nat) (l : List Int) (hl : l.length ≤ 1024) (w : World) (h : OwnRunes 21 B w rp rc l) :
    Calls Tryd.prog 53 #[.slice rp l.length rc] w fun e w' => e = .returned (.tuple #[]) ∧ OwnRunes 21 B w' rp rc l.reverse ∧ ∃ row, w.grownBy w' row ∧ ∀ k, row = some k → B ≤ k := by
  have hwf := h.2.2
  have hmem : ∀ i, ∀ r ∈ revTo l i, -2147483648 ≤ r ∧ r ≤ 2147483647 := fun i r hr => by
    unfold revTo at hr
    obtain ⟨t, ht, rfl⟩ := List.mem_map.1 hr
    have ht' := List.mem_range.1 ht
    unfold revAt
    split
    · exact hwf _ (by omega)
    · exact hwf _ ht'
  by_cases h2 : l.length < 2
  · have e : l.reverse = l := by
      match l, h2 with
      | [], _ => rfl
      | [a], _ => rfl
    rw [e]
    have HH := Lib.hid h
    clear h e hmem hwf
    go_enter Tryd.func53, Tryd.ntmps53
    go_wp2_with fail
    go_loopw [2, 3] (fun i j wr => i = .int .i64 0 ∧ j = .int .i64 ((l.length : Int) - 1) ∧ wr = w) (fun _ _ _ => 0)
    case atStart => exact ⟨rfl, rfl, rfl⟩
    case round =>
      obtain ⟨rfl, rfl, hw⟩ := hrel
      subst hw
      have hn : decide ((0 : Int) < (l.length : Int) - 1) = false := by simp; omega
      go_wp2_with fail
      go_end0
      exact ⟨rfl, HH.out, none, ⟨rfl, rfl, rfl, Nat.le_refl _, fun _ _ _ => rfl⟩, fun k hk => by cases hk⟩
  · obtain ⟨g, hp, hcap, hbg⟩ : ∃ g, rp = some ⟨g, 0, none⟩ ∧ l.length ≤ rc ∧ B ≤ g := by
      rcases h.1.2 with ⟨_, h0⟩ | ⟨g, cap, cur, hv, hb, hg, h5, _⟩
      · omega
      · simp only [Value.slice.injEq, true_and] at hv
        obtain ⟨rfl, rfl⟩ := hv
        exact ⟨g, rfl, h5, hb⟩
    subst hp
    have HMEM := Lib.hid hmem
    have H0 := Lib.hid h.1
    have HBIG := Lib.hid h.2.1
    have HWF := Lib.hid hwf
    clear hmem hwf h
    go_enter Tryd.func53, Tryd.ntmps53
    go_wp2_with fail
    go_loopw [2, 3] (fun i j wr => ∃ (a : Nat), a ≤ l.length ∧ i = .int .i64 a ∧ j = .int .i64 ((l.length : Int) - 1 - a) ∧ 2 * a ≤ l.length ∧ Hid (wr.ownsRow B 21 1 (.slice (some ⟨g, 0, none⟩) l.length rc) l.length ((revTo l a).map (Value.int .i32))) ∧ w.grownBy wr (some g)) (fun i _ _ => l.length - (intOf i).toNat)
    case atStart => exact ⟨0, by omega, rfl, by simp, by omega, by rw [revTo_zero]; exact H0.out, gb_refl _ _⟩
    case round =>
      obtain ⟨a, ha, rfl, rfl, ha2, HO, hgw⟩ := hrel
      by_cases hlt : 2 * a + 1 < l.length
      · obtain ⟨b, hb⟩ : ∃ b, b + a + 1 = l.length := ⟨l.length - 1 - a, by omega⟩
        have hab : a < b := by omega
        have hj : (l.length : Int) - 1 - (a : Int) = (b : Int) := by omega
        rw [hj]
        have ca : wr.cell? ⟨g, a, none⟩ = some (.int .i32 (rn l a)) := by
          rw [HO.out.cellAt a (by omega), List.getElem?_map, List.getElem?_eq_getElem (by rw [revTo_len]; omega)]
          show some (Value.int .i32 _) = _
          rw [← rn_eq, revTo_at (by omega) (Nat.le_refl _) (by omega)]
        have cb : wr.cell? ⟨g, b, none⟩ = some (.int .i32 (rn l b)) := by
          rw [HO.out.cellAt b (by omega), List.getElem?_map, List.getElem?_eq_getElem (by rw [revTo_len]; omega)]
          show some (Value.int .i32 _) = _
          rw [← rn_eq, revTo_at (by omega) (by omega) (by omega)]
        have fa := HO.out.frozenAt a
        have fb := HO.out.frozenAt b
        have hst := revTo_step hab hb
        have hs1 := HO.out.stored a (.int .i32 (rn l b))
        have hs2 := hs1.1.stored b (.int .i32 (rn l a))
        rw [← map_set, ← map_set, ← hst] at hs2
        have HS2 := Lib.hid hs2.1
        have hgg := gb_set (gb_set hgw a (.int .i32 (rn l b))) b (.int .i32 (rn l a))
        have HB := Lib.hid hb
        have hal : (a : Int) < (l.length : Int) := by omega
        have hbl : (b : Int) < (l.length : Int) := by omega
        have hlt2 : (a : Int) < (b : Int) := by omega
        clear hst hs1 hs2 hb hj
        go_wp2_with fail
        go_region
        all_goals go_wp2_with fail
        all_goals exact ⟨⟨a + 1, by omega, by go_num, by have := HB.out; simp; omega, by omega, HS2.out, ⟨hgg.os, hgg.tape, hgg.output, hgg.size, hgg.block⟩⟩, by simp [intOf]; omega⟩
      · have hn : decide ((a : Int) < (l.length : Int) - 1 - (a : Int)) = false := by simp; omega
        have he := revTo_end (l := l) (i := a) (by omega)
        have HE := Lib.hid he
        clear he
        go_wp2_with fail
        go_end0
        refine ⟨rfl, ⟨?_, by rw [List.length_reverse]; exact HBIG.out, ?_⟩, some g, hgw, fun k hk => by cases hk; exact hbg⟩
        · rw [List.length_reverse, ← HE.out]; exact HO.out
        · rw [← HE.out]; exact mem_rn (HMEM.out a)

set_option maxRecDepth 100000 in
set_option maxHeartbeats 2000000 in
theorem turned_any (fp lp : Option Addr) (fc lc : Nat) (A : Alpha) (s : ByteArray) (hs : s.size ≤ 140737488351232) (w : World) (hA : AlphaAt w fp lp A) (hT : Tabs w) :
    Calls Tryd.prog 27 #[.agg #[.slice fp A.feats.length fc, .slice lp A.lets.length lc], .string s] w fun e w' => e = .returned (.tuple #[.string (turnS A s), .int .i64 (ltrE A s)]) ∧ Ext w w' := by
  have hx0 : Ext w (w.alloc (.cells #[.slice fp A.feats.length fc, .slice lp A.lets.length lc] 26)) := (Ext.refl _).alloc _
  have hcx := letters_any fp lp fc lc A s hs _ (hA.mono hx0) (hT.ext hx0)
  have e1 : (spell A s).2 = ltrE A s := rfl
  have e2 : (spell A s).1 = ltr A s := rfl
  rw [e1, e2] at hcx
  clear e1 e2
  by_cases h0 : ltrE A s = 0
  · rw [show turnS A s = runesBytes (ltr A s).reverse from if_pos h0, h0]
    rw [h0] at hcx
    have h64 := (ltr_ok h0).2.2.2
    have HCX := Lib.hid hcx
    obtain ⟨X, hX⟩ : ∃ X, ltr A s = X := ⟨_, rfl⟩
    rw [hX] at HCX h64 ⊢
    clear hcx h0 hX
    go_enter Tryd.func27, Tryd.ntmps27
    go_wp2_with fail
    refine HCX.out.mono ?_
    rintro e w1 ⟨rp, rc, rfl, ho, hx1⟩
    go_wp2_with fail
    refine (rev_any _ rp rc X (by omega) w1 ho).mono ?_
    rintro e w2 ⟨rfl, ho2, row, hg2, hrow⟩
    have hx2 : Ext w w2 := Ext.grown (hx0.trans hx1) hg2 (fun k hk => Nat.le_trans hx0.le (hrow k hk))
    have hcv := ho2.at_.text (P := Tryd.prog) (src := 41) (dst := 9) Tryd.underlying41 Tryd.underlying21 Tryd.underlying9 rc
    rw [List.length_reverse] at hcv
    clear ho ho2 hg2
    go_wp2_with fail
    go_ret2
    exact ⟨rfl, hx2⟩
  · rw [show turnS A s = ⟨#[]⟩ from if_neg h0]
    have gE : (ltrE A s != 0) = true := by rw [bne_iff_ne]; exact h0
    have HCX := Lib.hid hcx
    clear hcx h0
    go_enter Tryd.func27, Tryd.ntmps27
    go_wp2_with fail
    refine HCX.out.mono ?_
    rintro e w1 ⟨rp, rc, rfl, ho, hx1⟩
    go_wp2_with fail
    go_ret2
    exact ⟨rfl, hx0.trans hx1⟩

end Go.Proofs.YtcnjgfadihimiaaDoor
