/- Contracts: the reference's Number, Read, Letters. -/
import Derived.Test.YtcnhlogkhnoacaaGreatDoorFeatc
import Derived.Test.YtcnhlogkhnoacaaGreatDoorFeatd
import Derived.Test.YtcnhlogkhnoacaaGreatDoorWordz
import Derived.Test.YtcnhlogkhnoacaaGreatDoorShelf
namespace Go.Proofs.YtcnhlogkhnoacaaGreatDoor
open Go.RowKit Go.Cg Go.Shelf

theorem Number_any (fp lp : Option Addr) (fc lc : Nat) (A : Alpha) (r : Int) (w : World) (hA : AlphaAt w fp lp A) :
    Calls Tryz.prog 100 #[.agg #[.slice fp A.feats.length fc, .slice lp A.lets.length lc], .int .i32 r] w fun e w' => e = .returned (.int .i64 (findLetter A r)) ∧ Ext w w' := by
  have hb := hA.lbig
  go_enter Tryz.func100, Tryz.ntmps100
  go_wp2
  go_loop [5] (fun i => ∃ k : Nat, k ≤ A.lets.length ∧ Hid (∀ j, j < k → (A.at_ j).rune ≠ r) ∧ i = .int .i64 k) (fun i => A.lets.length - (intOf i).toNat)
  case atStart => exact ⟨0, Nat.zero_le _, fun j hj => by omega, rfl⟩
  case round =>
    obtain ⟨k, hk, HN, rfl⟩ := hrel
    by_cases hlt : k < A.lets.length
    · obtain ⟨b, off, rfl, hbw, c0, c1, c2⟩ := hA.cells hlt
      cases he : ((A.at_ k).rune == r)
      · go_wp2
        refine ⟨⟨k + 1, by omega, ?_, by go_num⟩, by simp [intOf]; omega⟩
        intro j hj
        rcases Nat.lt_or_eq_of_le (Nat.le_of_lt_succ hj) with h | rfl
        · exact HN.out j h
        · simpa using he
      · go_wp2
        go_ret
        exact ⟨ret_int (findLetter_at hlt HN.out (by simpa using he)).symm, (Ext.refl _).alloc _⟩
    · go_wp2
      go_ret
      exact ⟨ret_int (findLetter_none fun j hj => HN.out j (by omega)).symm, (Ext.refl _).alloc _⟩

/-- the library's two tables lie in memory -/
def Tabs (w : World) : Prop := Lib.Utf8Tabs (Tryz.lays197_ren.g 3) (Tryz.lays197_ren.g 4) w
theorem Tabs.ext {w w' : World} (h : Tabs w) (hx : Ext w w') : Tabs w' := Utf8Tabs_below h hx

theorem decode_any (s : ByteArray) (a : Nat) (ha : a < s.size) (w : World) (hT : Tabs w) :
    Calls Tryz.prog 82 #[.string (s.extract a s.size)] w fun e w' => e = .returned (.tuple #[.int .i32 (runeAt s a), .int .i64 ((Utf8.decode s a).2 : Nat)]) ∧ Ext w w' := by
  have h := Any.utf8_DecodeRuneInString Tryz.lays197 (s.extract a s.size) w hT
  rw [decodeGo_tail s a ha] at h
  exact h

theorem infoR : (Tryz.prog.info? 21).map (fun i => (i.zero, i.size, i.bytes)) = some (some (.int .i32 0), 1, 4) := by kernel_rfl

theorem bad_true {s : ByteArray} {pos : Nat} (h : badAt s pos = true) : (runeAt s pos == 65533) = true ∧ (((Utf8.decode s pos).2 : Int) == 1) = true := by
  unfold badAt at h; unfold runeAt; simp only [Bool.and_eq_true, beq_iff_eq] at *; omega
theorem bad_false {s : ByteArray} {pos : Nat} (h : badAt s pos = false) : (runeAt s pos == 65533) = false ∨ (runeAt s pos == 65533) = true ∧ (((Utf8.decode s pos).2 : Int) == 1) = false := by
  unfold badAt at h; unfold runeAt; simp only [Bool.and_eq_false_iff, beq_eq_false_iff_ne, beq_iff_eq, ne_eq] at *; omega

set_option maxHeartbeats 2000000 in
set_option maxRecDepth 100000 in
theorem Read_any (fp lp : Option Addr) (fc lc : Nat) (A : Alpha) (s : ByteArray) (hs : s.size ≤ 140737488351232) (w : World) (hA : AlphaAt w fp lp A) (hT : Tabs w) :
    Calls Tryz.prog 60 #[.agg #[.slice fp A.feats.length fc, .slice lp A.lets.length lc], .string s, .int .i64 64] w fun e w' => ∃ rp rc, e = .returned (.tuple #[.slice rp (spellFrom A s s.size 0 []).1.length rc, .int .i64 (spellFrom A s s.size 0 []).2]) ∧ OwnRunes 21 w.heap.size w' rp rc (spellFrom A s s.size 0 []).1 ∧ Ext w w' := by
  have hx3 : Ext w (w.alloc (.cells #[.slice fp A.feats.length fc, .slice lp A.lets.length lc] 25)) := (Ext.refl _).alloc _
  obtain ⟨i0, hi, hz0, hz1, hz2⟩ := info_parts infoR
  obtain ⟨R, hR⟩ : ∃ R, spellFrom A s s.size 0 [] = R := ⟨_, rfl⟩
  rw [hR]
  go_enter Tryz.func60, Tryz.ntmps60
  go_wp2_with fail
  go_loopw [8, 9] (fun out at_ wr => ∃ (pos f : Nat) (acc : List Int), at_ = .int .i64 pos ∧ Ext (w.alloc (.cells #[.slice fp A.feats.length fc, .slice lp A.lets.length lc] 25)) wr ∧ wr.ownsRow (w.heap.size + 1) 21 1 out acc.length (acc.map (Value.int .i32)) ∧ acc.length ≤ 64 ∧ Hid (spellFrom A s f pos acc = R) ∧ s.size ≤ pos + f ∧ pos ≤ s.size ∧ Hid (∀ r ∈ acc, -2147483648 ≤ r ∧ r ≤ 2147483647)) (fun _ i _ => s.size - (intOf i).toNat)
  case atStart => exact ⟨0, s.size, [], rfl, Ext.refl _, World.ownsRow_nil _ _ _ _, by simp, hR, by omega, by omega, fun r hr => by cases hr⟩
  case round =>
    clear hR
    obtain ⟨pos, f, acc, rfl, hx, hown, hl, HS, hf, hp, HW⟩ := hrel
    obtain ⟨rp, rc, rfl⟩ := ownsRow_slice hown
    by_cases hlt : pos < s.size
    · obtain ⟨f, rfl⟩ : ∃ g, f = g + 1 := ⟨f - 1, by omega⟩
      have hw1 := width_pos s pos hlt
      have hw2 := width_le s pos hlt
      have hd0 : wr.cell? ⟨w.heap.size, 0, none⟩ = some (.slice fp A.feats.length fc) := by simpa using hx.cell0 0
      have hd1 : wr.cell? ⟨w.heap.size, 1, none⟩ = some (.slice lp A.lets.length lc) := by simpa using hx.cell0 1
      have hcon := fun (W : World) (hW : Ext wr W) => decode_any s pos hlt W (hT.ext (hx.box.trans hW))
      obtain ⟨hr1, hr2⟩ := runeAt_range s pos
      have HD := Lib.hid hcon
      clear hcon
      have HN := fun (W : World) (hW : Ext wr W) => Number_any fp lp fc lc A (runeAt s pos) W (hA.mono (hx.box.trans hW))
      have HN2 := Lib.hid HN
      clear HN
      cases hb : badAt s pos
      · have hst := fun (h1 : ¬ findLetter A (runeAt s pos) < 0) (h2 : ¬ acc.length = 64) => spellFrom_step A s f pos acc hlt hb h1 h2
        have HST := Lib.hid hst
        clear hst
        have H5 := Lib.hid (spellFrom_none A s f pos acc hlt hb)
        have H4 := Lib.hid (spellFrom_many A s f pos acc hlt hb)
        rcases bad_false hb with hb1 | ⟨hb1, hb2⟩
        all_goals
          cases hneg : decide (findLetter A (runeAt s pos) < 0)
          · cases h64 : ((acc.length : Int) == 64)
            · go_wp2_with (first | (go_at_call 82; refine (HD.out _ (Ext.refl _)).mono ?_; rintro e w1 ⟨rfl, hx1⟩; have e0 := (hx.trans hx1).cell0 0; have e1 := (hx.trans hx1).cell0 1; have l1 := (hx.trans hx1).lt0; simp at e0 e1) | (go_at_call 100; refine (HN2.out _ hx1).mono ?_; rintro e w2 ⟨rfl, hx2⟩) | (at_builtin; refine wpList_append_own _ rfl _ _ 36 rfl (w.heap.size + 1) 21 i0 (.int .i32 0) 1 4 Tryz.underlying36 hi hz0 hz1 hz2 rfl (by decide) _ _ _ rfl ((ownsRow_ext (ownsRow_ext hown hx1) hx2).alloc _) ⟨w2.heap.size, 0, none⟩ 1 1 [.int .i32 (runeAt s pos)] rfl rfl (one_cell _ _ _) (by simp [Value.oneCell']) (by unfold maxLen; omega) (by omega) (by simp; have := hx.le; have := hx1.le; have := hx2.le; simp at *; omega) ?_; intro v' w4 hown4 hgrow _))
              have e := HS.out
              rw [HST.out (by simpa using hneg) (by simp at h64; omega)] at e
              refine ⟨⟨pos + (Utf8.decode s pos).2, f, acc ++ [runeAt s pos], by go_num, Ext.append (((hx.trans hx1).trans hx2).alloc _) ((ownsRow_ext (ownsRow_ext hown hx1) hx2).alloc _) hgrow (Nat.le_of_eq (size_alloc _ _)), ?_, ?_, e, by omega, by omega, ?_⟩, by simp [intOf]; omega⟩
              · rw [List.length_append, List.map_append]; exact hown4
              · simp at h64; simp; omega
              · intro r hr
                rcases List.mem_append.1 hr with h | h
                · exact HW.out r h
                · rw [List.mem_singleton.1 h]; omega
            · go_wp2_with (first | (go_at_call 82; refine (HD.out _ (Ext.refl _)).mono ?_; rintro e w1 ⟨rfl, hx1⟩; have e0 := (hx.trans hx1).cell0 0; have e1 := (hx.trans hx1).cell0 1; have l1 := (hx.trans hx1).lt0; simp at e0 e1) | (go_at_call 100; refine (HN2.out _ hx1).mono ?_; rintro e w2 ⟨rfl, hx2⟩))
              go_ret2
              have e := HS.out
              rw [H4.out (by simpa using hneg) (by simp at h64; omega)] at e
              subst e
              exact ⟨none, 0, rfl, OwnRunes.nil _ _ _, (hx.box.trans hx1).trans hx2⟩
          · go_wp2_with (first | (go_at_call 82; refine (HD.out _ (Ext.refl _)).mono ?_; rintro e w1 ⟨rfl, hx1⟩; have e0 := (hx.trans hx1).cell0 0; have e1 := (hx.trans hx1).cell0 1; have l1 := (hx.trans hx1).lt0; simp at e0 e1) | (go_at_call 100; refine (HN2.out _ hx1).mono ?_; rintro e w2 ⟨rfl, hx2⟩))
            go_ret2
            have e := HS.out
            rw [H5.out (by simpa using hneg)] at e
            subst e
            exact ⟨none, 0, rfl, OwnRunes.nil _ _ _, (hx.box.trans hx1).trans hx2⟩
      · obtain ⟨hb1, hb2⟩ := bad_true hb
        go_wp2_with (first | (go_at_call 82; refine (HD.out _ (Ext.refl _)).mono ?_; rintro e w1 ⟨rfl, hx1⟩))
        go_ret2
        have e := HS.out
        rw [spellFrom_bad A s f pos acc hlt hb] at e
        subst e
        exact ⟨none, 0, rfl, OwnRunes.nil _ _ _, hx.box.trans hx1⟩
    · go_wp2_with fail
      go_ret2
      have e := HS.out
      rw [spellFrom_end A s f pos acc hlt] at e
      subst e
      exact ⟨rp, rc, rfl, ⟨ownsRow_base hown (by omega), Nat.le_trans hl (by decide), mem_rn HW.out⟩, hx.box⟩

end Go.Proofs.YtcnhlogkhnoacaaGreatDoor
