/- Contracts: double.Whole, double.Single, word.Part. -/
import Derived.Test.YtcjdpicepjoeoaaDoorDoubd
namespace Go.Proofs.YtcjdpicepjoeoaaDoor
open Go.RowKit Go.Cg Go.Shelf Go.Maps

def wholeS (A : Alpha) (s : ByteArray) : ByteArray := if (spell A s).2 = 0 then runesBytes ((spell A s).1 ++ (spell A s).1) else ⟨#[]⟩
theorem wholeS_eq (A : Alpha) (s : ByteArray) : wholeS A s = if (spell A s).2 = 0 then runesBytes ((spell A s).1 ++ (spell A s).1) else ⟨#[]⟩ := rfl

set_option maxHeartbeats 1000000 in
theorem whole_any (fp lp : Option Addr) (fc lc : Nat) (A : Alpha) (s : ByteArray) (hs : s.size ≤ 140737488351232) (w : World) (hA : AlphaAt w fp lp A) (hT : Tabs w) :
    Calls Tryd.prog 16 #[.agg #[.slice fp A.feats.length fc, .slice lp A.lets.length lc], .string s] w fun e w' => e = .returned (.tuple #[.string (wholeS A s), .int .i64 (spell A s).2]) ∧ Ext w w' := by
  have hx3 : Ext w (w.alloc (.cells #[.slice fp A.feats.length fc, .slice lp A.lets.length lc] 25)) := (Ext.refl _).alloc _
  have hcon := letters_any fp lp fc lc A s hs _ (hA.mono hx3) (hT.ext hx3)
  have h64 := spell_len A s
  have hfs := wholeS_eq A s
  obtain ⟨S, hS⟩ : ∃ S, wholeS A s = S := ⟨_, rfl⟩
  rw [hS] at hfs
  rw [hS]
  clear hS
  obtain ⟨l, hl⟩ : ∃ l, (spell A s).1 = l := ⟨_, rfl⟩
  obtain ⟨er, her⟩ : ∃ er, (spell A s).2 = er := ⟨_, rfl⟩
  rw [hl, her] at hcon hfs
  rw [hl] at h64
  rw [her]
  clear hl her
  by_cases h0 : er = 0
  · subst h0
    rw [if_pos rfl] at hfs
    subst hfs
    go_enter Tryd.func16, Tryd.ntmps16
    go_wp2_with (first | (go_at_call 13; refine hcon.mono ?_; rintro e w1 ⟨lrp, lrc, rfl, ho, hx1⟩; have hput := put_any _ _ _ l.length _ ho.at_ (OwnRunes_form ho).1 (OwnRunes_form ho).2 (Nat.le_refl _) h64; rw [List.take_length] at hput) | (go_at_call 30; refine hput.mono ?_; rintro e w2 ⟨rfl, hx2⟩))
    go_ret2
    exact ⟨rfl, (hx3.trans hx1).trans hx2⟩
  · have hn : (er != 0) = true := by rw [bne_iff_ne]; exact h0
    rw [if_neg h0] at hfs
    subst hfs
    go_enter Tryd.func16, Tryd.ntmps16
    go_wp2_with (go_at_call 13; refine hcon.mono ?_; rintro e w1 ⟨lrp, lrc, rfl, ho, hx1⟩)
    go_ret2
    exact ⟨rfl, hx3.trans hx1⟩

/-- where a word is cut to be single -/
def cutN (l : List Int) (n : Nat) : Nat := if n = 0 then l.length / 2 else n
def isDbl (l : List Int) (n : Nat) : Bool := decide (cutN l n ≠ 0 ∧ 2 * cutN l n ≤ l.length ∧ ¬ (n = 0 ∧ l.length % 2 ≠ 0)) && sq (l.take (2 * cutN l n))
def singleE (A : Alpha) (s : ByteArray) (n : Int) : Int := if (spell A s).2 ≠ 0 then (spell A s).2 else if n < 0 ∨ 64 < n then 2 else 0
def singleB (A : Alpha) (s : ByteArray) (n : Int) : Bool := decide (singleE A s n = 0) && isDbl (spell A s).1 n.toNat
def singleS (A : Alpha) (s : ByteArray) (n : Int) : ByteArray := if singleB A s n = true then runesBytes ((spell A s).1.drop (cutN (spell A s).1 n.toNat)) else ⟨#[]⟩
theorem singleE_eq (A : Alpha) (s : ByteArray) (n : Int) : singleE A s n = if (spell A s).2 ≠ 0 then (spell A s).2 else if n < 0 ∨ 64 < n then 2 else 0 := rfl
theorem singleB_eq (A : Alpha) (s : ByteArray) (n : Int) : singleB A s n = (decide (singleE A s n = 0) && isDbl (spell A s).1 n.toNat) := rfl
theorem singleS_eq (A : Alpha) (s : ByteArray) (n : Int) : singleS A s n = if singleB A s n = true then runesBytes ((spell A s).1.drop (cutN (spell A s).1 n.toNat)) else ⟨#[]⟩ := rfl

theorem cutL_drop (l : List Int) (m : Nat) : cutL l m l.length = l.drop m := by unfold cutL; exact List.take_of_length_le (by rw [List.length_drop]; omega)

theorem twice_take {T B : Nat} {w : World} {g c : Nat} {l : List Int} {m : Nat} (h : OwnRunes T B w (some ⟨g, 0, none⟩) c l) (hl : 2 * m ≤ l.length) (hm : 0 < m) :
    Calls Tryd.prog 24 #[.slice (some ⟨g, 0, none⟩) (2 * m) c] w fun e w' => e = .returned (.bool (sq (l.take (2 * m)))) ∧ Ext w w' := by
  have hc := (OwnRunes_form h).2
  have := twice_any g 0 c (l.take (2 * m)) w (h.at_.take (2 * m)) (by rw [List.length_take]; omega) (by rw [List.length_take]; omega)
  rw [List.length_take, Nat.min_eq_left hl] at this
  exact this
theorem text_drop {T B : Nat} {w : World} {g c : Nat} {l : List Int} {m : Nat} (h : OwnRunes T B w (some ⟨g, 0, none⟩) c l) :
    (convert 37 9 (.slice (some ⟨g, m, none⟩) (l.length - m) (c - m))).run Tryd.prog w = .ok (.string (runesBytes (l.drop m))) w := by
  have := (h.at_.cut m l.length (Nat.le_refl _)).text (P := Tryd.prog) (src := 37) (dst := 9) Tryd.underlying37 Tryd.underlying21 Tryd.underlying9 (c - m)
  rw [cutL_length _ _ _ (Nat.le_refl _), Nat.zero_add, cutL_drop] at this
  exact this

set_option maxHeartbeats 2000000 in
theorem single_any (fp lp : Option Addr) (fc lc : Nat) (A : Alpha) (s : ByteArray) (n : Int) (hs : s.size ≤ 140737488351232) (hn : -9223372036854775808 ≤ n ∧ n ≤ 9223372036854775807) (w : World) (hA : AlphaAt w fp lp A) (hT : Tabs w) :
    Calls Tryd.prog 15 #[.agg #[.slice fp A.feats.length fc, .slice lp A.lets.length lc], .string s, .int .i64 n] w fun e w' => e = .returned (.tuple #[.string (singleS A s n), .bool (singleB A s n), .int .i64 (singleE A s n)]) ∧ Ext w w' := by
  have hx3 : Ext w (w.alloc (.cells #[.slice fp A.feats.length fc, .slice lp A.lets.length lc] 25)) := (Ext.refl _).alloc _
  have hcon := letters_any fp lp fc lc A s hs _ (hA.mono hx3) (hT.ext hx3)
  have h64 := spell_len A s
  have hfe := singleE_eq A s n
  have hfb := singleB_eq A s n
  have hfs := singleS_eq A s n
  obtain ⟨F, hF⟩ : ∃ F, singleE A s n = F := ⟨_, rfl⟩
  obtain ⟨B, hB⟩ : ∃ B, singleB A s n = B := ⟨_, rfl⟩
  obtain ⟨S, hS⟩ : ∃ S, singleS A s n = S := ⟨_, rfl⟩
  rw [hF] at hfe hfb
  rw [hB] at hfb hfs
  rw [hS] at hfs
  rw [hF, hB, hS]
  clear hF hB hS
  obtain ⟨l, hl⟩ : ∃ l, (spell A s).1 = l := ⟨_, rfl⟩
  obtain ⟨er, her⟩ : ∃ er, (spell A s).2 = er := ⟨_, rfl⟩
  rw [hl, her] at hcon
  rw [her] at hfe
  rw [hl] at h64 hfs hfb
  clear hl her
  by_cases h0 : er = 0
  · subst h0
    rw [if_neg (by decide : ¬ ((0 : Int) ≠ 0))] at hfe
    by_cases h1 : n < 0 ∨ 64 < n
    · rw [if_pos h1] at hfe
      subst hfe
      rw [decide_eq_false (by decide), Bool.false_and] at hfb
      subst hfb
      rw [if_neg (by decide)] at hfs
      subst hfs
      rcases h1 with h1 | h1
      all_goals
        go_enter Tryd.func15, Tryd.ntmps15
        go_wp2_with (go_at_call 13; refine hcon.mono ?_; rintro e w1 ⟨lrp, lrc, rfl, ho, hx1⟩)
        go_ret3
        exact ⟨rfl, hx3.trans hx1⟩
    · rw [if_neg h1] at hfe
      subst hfe
      rw [decide_eq_true rfl, Bool.true_and] at hfb
      obtain ⟨m, rfl⟩ : ∃ m : Nat, n = m := ⟨n.toNat, by omega⟩
      rw [Int.toNat_natCast] at hfb hfs
      by_cases hm : m = 0
      · subst hm
        have hcut : cutN l 0 = l.length / 2 := if_pos rfl
        rw [hcut] at hfs
        by_cases hz : l.length / 2 = 0
        · have hb2 : isDbl l 0 = false := by unfold isDbl; rw [hcut, decide_eq_false fun h => h.1 hz, Bool.false_and]
          rw [hb2] at hfb
          subst hfb
          rw [if_neg (by decide)] at hfs
          subst hfs
          have g1 : ((l.length : Int) / 2 == 0) = true := by rw [beq_iff_eq]; omega
          go_enter Tryd.func15, Tryd.ntmps15
          go_wp2_with (go_at_call 13; refine hcon.mono ?_; rintro e w1 ⟨lrp, lrc, rfl, ho, hx1⟩)
          go_ret3
          exact ⟨rfl, hx3.trans hx1⟩
        · have g1 : ((l.length : Int) / 2 == 0) = false := by rw [beq_eq_false_iff_ne]; omega
          have g2 : decide ((l.length : Int) < 2 * ((l.length : Int) / 2)) = false := decide_eq_false (by omega)
          have hlen : 2 * (l.length / 2) ≤ l.length := by omega
          by_cases hodd : l.length % 2 = 0
          · have hb2 : isDbl l 0 = sq (l.take (2 * (l.length / 2))) := by unfold isDbl; rw [hcut, decide_eq_true ⟨hz, hlen, fun h => h.2 hodd⟩, Bool.true_and]
            rw [hb2] at hfb
            have g3 : ((l.length : Int) % 2 != 0) = false := by rw [bne_eq_false_iff_eq]; omega
            cases hsq : sq (l.take (2 * (l.length / 2)))
            · rw [hsq] at hfb
              subst hfb
              rw [if_neg (by decide)] at hfs
              subst hfs
              go_enter Tryd.func15, Tryd.ntmps15
              go_wp2_with (first | (go_at_call 13; refine hcon.mono ?_; rintro e w1 ⟨lrp, lrc, rfl, ho, hx1⟩; obtain ⟨g, rfl, hgc, hgb⟩ := OwnRunes_some ho (by omega)) | (go_at_call 24; go_loud (refine (twice_take (m := l.length / 2) ho hlen (by omega)).mono ?_); rintro e w2 ⟨rfl, hx2⟩; rw [hsq]; have hcv := text_drop (m := l.length / 2) (ho.ext hx2)))
              go_ret3
              exact ⟨rfl, (hx3.trans hx1).trans hx2⟩
            · rw [hsq] at hfb
              subst hfb
              rw [if_pos rfl] at hfs
              subst hfs
              go_enter Tryd.func15, Tryd.ntmps15
              go_wp2_with (first | (go_at_call 13; refine hcon.mono ?_; rintro e w1 ⟨lrp, lrc, rfl, ho, hx1⟩; obtain ⟨g, rfl, hgc, hgb⟩ := OwnRunes_some ho (by omega)) | (go_at_call 24; go_loud (refine (twice_take (m := l.length / 2) ho hlen (by omega)).mono ?_); rintro e w2 ⟨rfl, hx2⟩; rw [hsq]; have hcv := text_drop (m := l.length / 2) (ho.ext hx2)))
              go_ret3
              exact ⟨rfl, (hx3.trans hx1).trans hx2⟩
          · have hb2 : isDbl l 0 = false := by unfold isDbl; rw [hcut, decide_eq_false fun h => h.2.2 ⟨rfl, hodd⟩, Bool.false_and]
            rw [hb2] at hfb
            subst hfb
            rw [if_neg (by decide)] at hfs
            subst hfs
            have g3 : ((l.length : Int) % 2 != 0) = true := by rw [bne_iff_ne]; omega
            go_enter Tryd.func15, Tryd.ntmps15
            go_wp2_with (go_at_call 13; refine hcon.mono ?_; rintro e w1 ⟨lrp, lrc, rfl, ho, hx1⟩)
            go_ret3
            exact ⟨rfl, hx3.trans hx1⟩
      · have hcut : cutN l m = m := if_neg hm
        rw [hcut] at hfs
        by_cases hlen : 2 * m ≤ l.length
        · have hb2 : isDbl l m = sq (l.take (2 * m)) := by unfold isDbl; rw [hcut, decide_eq_true ⟨hm, hlen, fun h => hm h.1⟩, Bool.true_and]
          rw [hb2] at hfb
          have g1 : ((m : Int) == 0) = false := by rw [beq_eq_false_iff_ne]; omega
          have g2 : decide ((l.length : Int) < 2 * m) = false := decide_eq_false (by omega)
          cases hsq : sq (l.take (2 * m))
          · rw [hsq] at hfb
            subst hfb
            rw [if_neg (by decide)] at hfs
            subst hfs
            go_enter Tryd.func15, Tryd.ntmps15
            go_wp2_with (first | (go_at_call 13; refine hcon.mono ?_; rintro e w1 ⟨lrp, lrc, rfl, ho, hx1⟩; obtain ⟨g, rfl, hgc, hgb⟩ := OwnRunes_some ho (by omega)) | (go_at_call 24; go_loud (refine (twice_take (m := m) ho hlen (by omega)).mono ?_); rintro e w2 ⟨rfl, hx2⟩; rw [hsq]; have hcv := text_drop (m := m) (ho.ext hx2)))
            go_ret3
            exact ⟨rfl, (hx3.trans hx1).trans hx2⟩
          · rw [hsq] at hfb
            subst hfb
            rw [if_pos rfl] at hfs
            subst hfs
            go_enter Tryd.func15, Tryd.ntmps15
            go_wp2_with (first | (go_at_call 13; refine hcon.mono ?_; rintro e w1 ⟨lrp, lrc, rfl, ho, hx1⟩; obtain ⟨g, rfl, hgc, hgb⟩ := OwnRunes_some ho (by omega)) | (go_at_call 24; go_loud (refine (twice_take (m := m) ho hlen (by omega)).mono ?_); rintro e w2 ⟨rfl, hx2⟩; rw [hsq]; have hcv := text_drop (m := m) (ho.ext hx2)))
            go_ret3
            exact ⟨rfl, (hx3.trans hx1).trans hx2⟩
        · have hb2 : isDbl l m = false := by unfold isDbl; rw [hcut, decide_eq_false fun h => hlen h.2.1, Bool.false_and]
          rw [hb2] at hfb
          subst hfb
          rw [if_neg (by decide)] at hfs
          subst hfs
          have g1 : ((m : Int) == 0) = false := by rw [beq_eq_false_iff_ne]; omega
          have g2 : decide ((l.length : Int) < 2 * m) = true := decide_eq_true (by omega)
          go_enter Tryd.func15, Tryd.ntmps15
          go_wp2_with (go_at_call 13; refine hcon.mono ?_; rintro e w1 ⟨lrp, lrc, rfl, ho, hx1⟩)
          go_ret3
          exact ⟨rfl, hx3.trans hx1⟩
  · have hn : (er != 0) = true := by rw [bne_iff_ne]; exact h0
    rw [if_pos h0] at hfe
    subst hfe
    rw [decide_eq_false h0, Bool.false_and] at hfb
    subst hfb
    rw [if_neg (by decide)] at hfs
    subst hfs
    go_enter Tryd.func15, Tryd.ntmps15
    go_wp2_with (go_at_call 13; refine hcon.mono ?_; rintro e w1 ⟨lrp, lrc, rfl, ho, hx1⟩)
    go_ret3
    exact ⟨rfl, hx3.trans hx1⟩

set_option maxRecDepth 100000 in
set_option maxHeartbeats 1000000 in
theorem part_any (fp lp : Option Addr) (fc lc : Nat) (A : Alpha) (s : ByteArray) (i j : Nat) (hs : s.size ≤ 140737488351232) (h0 : (spell A s).2 = 0) (hij : i < j) (hj : j ≤ (spell A s).1.length) (w : World) (hA : AlphaAt w fp lp A) (hT : Tabs w) :
    Calls Tryd.prog 17 #[.agg #[.slice fp A.feats.length fc, .slice lp A.lets.length lc], .string s, .int .i64 i, .int .i64 j] w fun e w' => e = .returned (.tuple #[.string (runesBytes (cutL (spell A s).1 i j)), .int .i64 0]) ∧ Ext w w' := by
  have hx3 : Ext w (w.alloc (.cells #[.slice fp A.feats.length fc, .slice lp A.lets.length lc] 25)) := (Ext.refl _).alloc _
  have hcon := letters_any fp lp fc lc A s hs _ (hA.mono hx3) (hT.ext hx3)
  have h64 := spell_len A s
  rw [h0] at hcon
  obtain ⟨l, hl⟩ : ∃ l, (spell A s).1 = l := ⟨_, rfl⟩
  rw [hl] at hcon h64 hj
  rw [hl]
  clear hl h0
  have g1 : decide ((i : Int) < 0) = false := decide_eq_false (by omega)
  have g2 : decide ((j : Int) < i) = false := decide_eq_false (by omega)
  have g3 : decide ((l.length : Int) < j) = false := decide_eq_false (by omega)
  go_enter Tryd.func17, Tryd.ntmps17
  go_wp2_with (go_at_call 13; refine hcon.mono ?_; rintro e w1 ⟨lrp, lrc, rfl, ho, hx1⟩; obtain ⟨g, rfl, hgc, hgb⟩ := OwnRunes_some ho (by omega); have hcv := (ho.at_.cut i j hj).text (P := Tryd.prog) (src := 37) (dst := 9) Tryd.underlying37 Tryd.underlying21 Tryd.underlying9 (j - i); rw [cutL_length _ _ _ hj, Nat.zero_add] at hcv)
  go_ret2
  exact ⟨rfl, hx3.trans hx1⟩

end Go.Proofs.YtcjdpicepjoeoaaDoor
