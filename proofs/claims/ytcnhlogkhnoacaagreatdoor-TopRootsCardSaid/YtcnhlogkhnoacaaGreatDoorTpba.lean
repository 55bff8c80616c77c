/- Double's contracts beside Letz; what was doubled is single again; cognatetop.long. -/
import Derived.Test.YtcnhlogkhnoacaaGreatDoorLetz
import Derived.Test.YtcnhlogkhnoacaaGreatDoorDouba
import Derived.Test.YtcnhlogkhnoacaaGreatDoorRadk
import Derived.Test.YtcnhlogkhnoacaaGreatDoorTpab
import Derived.Lib.Bits
namespace Go.Proofs.YtcnhlogkhnoacaaGreatDoor
open Go.RowKit Go.Cg Go.Shelf Go.Maps

set_option maxHeartbeats 1000000 in
theorem dput_any (p : Option Addr) (c : Nat) (l : List Int) (n : Nat) (w : World) (h : RunesAt w p l) (hp : (∃ b off, p = some ⟨b, off, none⟩) ∨ (p = none ∧ c = 0)) (hc : l.length ≤ c) (hn : n ≤ l.length) (h64 : l.length ≤ 64) :
    Calls Tryz.prog 79 #[.slice p l.length c, .int .i64 n] w fun e w' => e = .returned (.string (runesBytes (l.take n ++ l))) ∧ Ext w w' := by
  have hbig := h.big
  have hcv : ∀ W, Ext w W → (convert 36 9 (.slice p l.length c)).run Tryz.prog W = .ok (.string (runesBytes l)) W := fun W hW =>
    (h.mono hW).text (P := Tryz.prog) (src := 36) (dst := 9) Tryz.underlying36 Tryz.underlying21 Tryz.underlying9 c
  have hcw : ∀ W, Ext w W → (convert 36 9 (.slice p n c)).run Tryz.prog W = .ok (.string (runesBytes (l.take n))) W := by
    intro W hW
    have := ((h.take n).mono hW).text (P := Tryz.prog) (src := 36) (dst := 9) Tryz.underlying36 Tryz.underlying21 Tryz.underlying9 c
    rw [List.length_take, Nat.min_eq_left hn] at this
    exact this
  rw [rb_append]
  have hs1 := rb_size_le (l.take n)
  have hs2 := rb_size_le l
  rw [List.length_take, Nat.min_eq_left hn] at hs1
  have hs3 : ((runesBytes (l.take n)).size : Int) ≤ 8388608 := by omega
  have hs4 : ((runesBytes l).size : Int) ≤ 8388608 := by omega
  have hs5 : (runesBytes (l.take n)).size + (runesBytes l).size ≤ 9223372036854775807 := by omega
  rcases hp with ⟨b, off, rfl⟩ | ⟨rfl, rfl⟩
  · go_enter Tryz.func79, Tryz.ntmps79
    go_wp2_with fail
    (refine wp_region_ext (by kernel_rfl) (by kernel_rfl) ?_; intro ι hι g hg; have q_hcv := fun i => hcv _ (hg.ext i); have q_hcw := fun i => hcw _ (hg.ext i); clear hcv hcw; (repeat (go_big_quiet_step (fail))); refine wpQuiet_nil ?_; rintro w2 ⟨i2, rfl⟩; have hq := hg.ext i2; generalize g i2 = w2 at hq ⊢; clear q_hcv q_hcw i2 hg g hι ι)
    go_wp2_with fail
    go_ret
    exact ⟨rfl, hq⟩
  · go_enter Tryz.func79, Tryz.ntmps79
    go_wp2_with fail
    (refine wp_region_ext (by kernel_rfl) (by kernel_rfl) ?_; intro ι hι g hg; have q_hcv := fun i => hcv _ (hg.ext i); have q_hcw := fun i => hcw _ (hg.ext i); clear hcv hcw; (repeat (go_big_quiet_step (fail))); refine wpQuiet_nil ?_; rintro w2 ⟨i2, rfl⟩; have hq := hg.ext i2; generalize g i2 = w2 at hq ⊢; clear q_hcv q_hcw i2 hg g hι ι)
    go_wp2_with fail
    go_ret
    exact ⟨rfl, hq⟩

def frontE (A : Alpha) (s : ByteArray) (n : Int) : Int := if (spell A s).2 ≠ 0 then (spell A s).2 else if n < 0 ∨ 64 < n then 2 else if ((spell A s).1.length : Int) < n then 150 else 0
def frontS (A : Alpha) (s : ByteArray) (n : Int) : ByteArray := if frontE A s n = 0 then runesBytes ((spell A s).1.take n.toNat ++ (spell A s).1) else ⟨#[]⟩
theorem frontE_eq (A : Alpha) (s : ByteArray) (n : Int) : frontE A s n = if (spell A s).2 ≠ 0 then (spell A s).2 else if n < 0 ∨ 64 < n then 2 else if ((spell A s).1.length : Int) < n then 150 else 0 := rfl
theorem frontS_eq (A : Alpha) (s : ByteArray) (n : Int) : frontS A s n = if frontE A s n = 0 then runesBytes ((spell A s).1.take n.toNat ++ (spell A s).1) else ⟨#[]⟩ := rfl

set_option maxHeartbeats 1000000 in
theorem front_any (fp lp : Option Addr) (fc lc : Nat) (A : Alpha) (s : ByteArray) (n : Int) (hs : s.size ≤ 140737488351232) (hn : -9223372036854775808 ≤ n ∧ n ≤ 9223372036854775807) (w : World) (hA : AlphaAt w fp lp A) (hT : Tabs w) :
    Calls Tryz.prog 41 #[.agg #[.slice fp A.feats.length fc, .slice lp A.lets.length lc], .string s, .int .i64 n] w fun e w' => e = .returned (.tuple #[.string (frontS A s n), .int .i64 (frontE A s n)]) ∧ Ext w w' := by
  have hx3 : Ext w (w.alloc (.cells #[.slice fp A.feats.length fc, .slice lp A.lets.length lc] 25)) := (Ext.refl _).alloc _
  have hcon := letters_any fp lp fc lc A s hs _ (hA.mono hx3) (hT.ext hx3)
  have h64 := spell_len A s
  have hfe := frontE_eq A s n
  have hfs := frontS_eq A s n
  obtain ⟨F, hF⟩ : ∃ F, frontE A s n = F := ⟨_, rfl⟩
  obtain ⟨S, hS⟩ : ∃ S, frontS A s n = S := ⟨_, rfl⟩
  rw [hF] at hfe hfs
  rw [hS] at hfs
  rw [hF, hS]
  clear hF hS
  obtain ⟨l, hl⟩ : ∃ l, (spell A s).1 = l := ⟨_, rfl⟩
  obtain ⟨er, her⟩ : ∃ er, (spell A s).2 = er := ⟨_, rfl⟩
  rw [hl, her] at hcon hfe
  rw [hl] at h64 hfs
  clear hl her
  by_cases h0 : er = 0
  · subst h0
    rw [if_neg (by decide : ¬ ((0 : Int) ≠ 0))] at hfe
    by_cases h1 : n < 0
    · rw [if_pos (.inl h1)] at hfe
      subst hfe
      rw [if_neg (by decide)] at hfs
      subst hfs
      go_enter Tryz.func41, Tryz.ntmps41
      go_wp2_with (go_at_call 36; refine hcon.mono ?_; rintro e w1 ⟨lrp, lrc, rfl, ho, hx1⟩)
      go_ret2
      exact ⟨rfl, hx3.trans hx1⟩
    · by_cases h2 : 64 < n
      · rw [if_pos (.inr h2)] at hfe
        subst hfe
        rw [if_neg (by decide)] at hfs
        subst hfs
        go_enter Tryz.func41, Tryz.ntmps41
        go_wp2_with (go_at_call 36; refine hcon.mono ?_; rintro e w1 ⟨lrp, lrc, rfl, ho, hx1⟩)
        go_ret2
        exact ⟨rfl, hx3.trans hx1⟩
      · rw [if_neg (by omega)] at hfe
        by_cases h3 : (l.length : Int) < n
        · rw [if_pos h3] at hfe
          subst hfe
          rw [if_neg (by decide)] at hfs
          subst hfs
          go_enter Tryz.func41, Tryz.ntmps41
          go_wp2_with (go_at_call 36; refine hcon.mono ?_; rintro e w1 ⟨lrp, lrc, rfl, ho, hx1⟩)
          go_ret2
          exact ⟨rfl, hx3.trans hx1⟩
        · rw [if_neg h3] at hfe
          subst hfe
          rw [if_pos rfl] at hfs
          subst hfs
          obtain ⟨m, rfl⟩ : ∃ m : Nat, n = m := ⟨n.toNat, by omega⟩
          rw [Int.toNat_natCast]
          go_enter Tryz.func41, Tryz.ntmps41
          go_wp2_with (first | (go_at_call 36; refine hcon.mono ?_; rintro e w1 ⟨lrp, lrc, rfl, ho, hx1⟩) | (go_at_call 79; refine (dput_any _ _ _ _ _ ho.at_ (OwnRunes_form ho).1 (OwnRunes_form ho).2 (by omega) h64).mono ?_; rintro e w2 ⟨rfl, hx2⟩))
          go_ret2
          exact ⟨rfl, (hx3.trans hx1).trans hx2⟩
  · have hn : (er != 0) = true := by rw [bne_iff_ne]; exact h0
    rw [if_pos h0] at hfe
    subst hfe
    rw [if_neg h0] at hfs
    subst hfs
    go_enter Tryz.func41, Tryz.ntmps41
    go_wp2_with (go_at_call 36; refine hcon.mono ?_; rintro e w1 ⟨lrp, lrc, rfl, ho, hx1⟩)
    go_ret2
    exact ⟨rfl, hx3.trans hx1⟩

def wholeS (A : Alpha) (s : ByteArray) : ByteArray := if (spell A s).2 = 0 then runesBytes ((spell A s).1 ++ (spell A s).1) else ⟨#[]⟩
theorem wholeS_eq (A : Alpha) (s : ByteArray) : wholeS A s = if (spell A s).2 = 0 then runesBytes ((spell A s).1 ++ (spell A s).1) else ⟨#[]⟩ := rfl

set_option maxHeartbeats 1000000 in
theorem whole_any (fp lp : Option Addr) (fc lc : Nat) (A : Alpha) (s : ByteArray) (hs : s.size ≤ 140737488351232) (w : World) (hA : AlphaAt w fp lp A) (hT : Tabs w) :
    Calls Tryz.prog 43 #[.agg #[.slice fp A.feats.length fc, .slice lp A.lets.length lc], .string s] w fun e w' => e = .returned (.tuple #[.string (wholeS A s), .int .i64 (spell A s).2]) ∧ Ext w w' := by
  have hx3 : Ext w (w.alloc (.cells #[.slice fp A.feats.length fc, .slice lp A.lets.length lc] 25)) := (Ext.refl _).alloc _
  have hcon := letters_any fp lp fc lc A s hs _ (hA.mono hx3) (hT.ext hx3)
  have h64 := spell_len A s
  have hfs := wholeS_eq A s
  obtain ⟨S, hS⟩ : ∃ S, wholeS A s = S := ⟨_, rfl⟩
  rw [hS] at hfs
  rw [hS]
  clear hS
  obtain ⟨l, hl⟩ : ∃ l, (spell A s).1 = l := ⟨_, rfl⟩
  obtain ⟨er, her⟩ : ∃ er, (spell A s).2 = er := ⟨_, rfl⟩
  rw [hl, her] at hcon hfs
  rw [hl] at h64
  rw [her]
  clear hl her
  by_cases h0 : er = 0
  · subst h0
    rw [if_pos rfl] at hfs
    subst hfs
    go_enter Tryz.func43, Tryz.ntmps43
    go_wp2_with (first | (go_at_call 36; refine hcon.mono ?_; rintro e w1 ⟨lrp, lrc, rfl, ho, hx1⟩; have hput := dput_any _ _ _ l.length _ ho.at_ (OwnRunes_form ho).1 (OwnRunes_form ho).2 (Nat.le_refl _) h64; rw [List.take_length] at hput) | (go_at_call 79; refine hput.mono ?_; rintro e w2 ⟨rfl, hx2⟩))
    go_ret2
    exact ⟨rfl, (hx3.trans hx1).trans hx2⟩
  · have hn : (er != 0) = true := by rw [bne_iff_ne]; exact h0
    rw [if_neg h0] at hfs
    subst hfs
    go_enter Tryz.func43, Tryz.ntmps43
    go_wp2_with (go_at_call 36; refine hcon.mono ?_; rintro e w1 ⟨lrp, lrc, rfl, ho, hx1⟩)
    go_ret2
    exact ⟨rfl, hx3.trans hx1⟩

/-- where a word is cut to be single -/
def cutN (l : List Int) (n : Nat) : Nat := if n = 0 then l.length / 2 else n
def isDbl (l : List Int) (n : Nat) : Bool := decide (cutN l n ≠ 0 ∧ 2 * cutN l n ≤ l.length ∧ ¬ (n = 0 ∧ l.length % 2 ≠ 0)) && sq (l.take (2 * cutN l n))
def singleE (A : Alpha) (s : ByteArray) (n : Int) : Int := if (spell A s).2 ≠ 0 then (spell A s).2 else if n < 0 ∨ 64 < n then 2 else 0
def singleB (A : Alpha) (s : ByteArray) (n : Int) : Bool := decide (singleE A s n = 0) && isDbl (spell A s).1 n.toNat
def singleS (A : Alpha) (s : ByteArray) (n : Int) : ByteArray := if singleB A s n = true then runesBytes ((spell A s).1.drop (cutN (spell A s).1 n.toNat)) else ⟨#[]⟩
theorem singleE_eq (A : Alpha) (s : ByteArray) (n : Int) : singleE A s n = if (spell A s).2 ≠ 0 then (spell A s).2 else if n < 0 ∨ 64 < n then 2 else 0 := rfl
theorem singleB_eq (A : Alpha) (s : ByteArray) (n : Int) : singleB A s n = (decide (singleE A s n = 0) && isDbl (spell A s).1 n.toNat) := rfl
theorem singleS_eq (A : Alpha) (s : ByteArray) (n : Int) : singleS A s n = if singleB A s n = true then runesBytes ((spell A s).1.drop (cutN (spell A s).1 n.toNat)) else ⟨#[]⟩ := rfl

theorem cutL_drop (l : List Int) (m : Nat) : cutL l m l.length = l.drop m := by unfold cutL; exact List.take_of_length_le (by rw [List.length_drop]; omega)

theorem twice_take {T B : Nat} {w : World} {g c : Nat} {l : List Int} {m : Nat} (h : OwnRunes T B w (some ⟨g, 0, none⟩) c l) (hl : 2 * m ≤ l.length) (hm : 0 < m) :
    Calls Tryz.prog 80 #[.slice (some ⟨g, 0, none⟩) (2 * m) c] w fun e w' => e = .returned (.bool (sq (l.take (2 * m)))) ∧ Ext w w' := by
  have hc := (OwnRunes_form h).2
  have := twice_any g 0 c (l.take (2 * m)) w (h.at_.take (2 * m)) (by rw [List.length_take]; omega) (by rw [List.length_take]; omega)
  rw [List.length_take, Nat.min_eq_left hl] at this
  exact this
theorem text_drop {T B : Nat} {w : World} {g c : Nat} {l : List Int} {m : Nat} (h : OwnRunes T B w (some ⟨g, 0, none⟩) c l) :
    (convert 36 9 (.slice (some ⟨g, m, none⟩) (l.length - m) (c - m))).run Tryz.prog w = .ok (.string (runesBytes (l.drop m))) w := by
  have := (h.at_.cut m l.length (Nat.le_refl _)).text (P := Tryz.prog) (src := 36) (dst := 9) Tryz.underlying36 Tryz.underlying21 Tryz.underlying9 (c - m)
  rw [cutL_length _ _ _ (Nat.le_refl _), Nat.zero_add, cutL_drop] at this
  exact this

set_option maxHeartbeats 2000000 in
theorem single_any (fp lp : Option Addr) (fc lc : Nat) (A : Alpha) (s : ByteArray) (n : Int) (hs : s.size ≤ 140737488351232) (hn : -9223372036854775808 ≤ n ∧ n ≤ 9223372036854775807) (w : World) (hA : AlphaAt w fp lp A) (hT : Tabs w) :
    Calls Tryz.prog 42 #[.agg #[.slice fp A.feats.length fc, .slice lp A.lets.length lc], .string s, .int .i64 n] w fun e w' => e = .returned (.tuple #[.string (singleS A s n), .bool (singleB A s n), .int .i64 (singleE A s n)]) ∧ Ext w w' := by
  have hx3 : Ext w (w.alloc (.cells #[.slice fp A.feats.length fc, .slice lp A.lets.length lc] 25)) := (Ext.refl _).alloc _
  have hcon := letters_any fp lp fc lc A s hs _ (hA.mono hx3) (hT.ext hx3)
  have h64 := spell_len A s
  have hfe := singleE_eq A s n
  have hfb := singleB_eq A s n
  have hfs := singleS_eq A s n
  obtain ⟨F, hF⟩ : ∃ F, singleE A s n = F := ⟨_, rfl⟩
  obtain ⟨B, hB⟩ : ∃ B, singleB A s n = B := ⟨_, rfl⟩
  obtain ⟨S, hS⟩ : ∃ S, singleS A s n = S := ⟨_, rfl⟩
  rw [hF] at hfe hfb
  rw [hB] at hfb hfs
  rw [hS] at hfs
  rw [hF, hB, hS]
  clear hF hB hS
  obtain ⟨l, hl⟩ : ∃ l, (spell A s).1 = l := ⟨_, rfl⟩
  obtain ⟨er, her⟩ : ∃ er, (spell A s).2 = er := ⟨_, rfl⟩
  rw [hl, her] at hcon
  rw [her] at hfe
  rw [hl] at h64 hfs hfb
  clear hl her
  by_cases h0 : er = 0
  · subst h0
    rw [if_neg (by decide : ¬ ((0 : Int) ≠ 0))] at hfe
    by_cases h1 : n < 0 ∨ 64 < n
    · rw [if_pos h1] at hfe
      subst hfe
      rw [decide_eq_false (by decide), Bool.false_and] at hfb
      subst hfb
      rw [if_neg (by decide)] at hfs
      subst hfs
      rcases h1 with h1 | h1
      all_goals
        go_enter Tryz.func42, Tryz.ntmps42
        go_wp2_with (go_at_call 36; refine hcon.mono ?_; rintro e w1 ⟨lrp, lrc, rfl, ho, hx1⟩)
        go_ret3
        exact ⟨rfl, hx3.trans hx1⟩
    · rw [if_neg h1] at hfe
      subst hfe
      rw [decide_eq_true rfl, Bool.true_and] at hfb
      obtain ⟨m, rfl⟩ : ∃ m : Nat, n = m := ⟨n.toNat, by omega⟩
      rw [Int.toNat_natCast] at hfb hfs
      by_cases hm : m = 0
      · subst hm
        have hcut : cutN l 0 = l.length / 2 := if_pos rfl
        rw [hcut] at hfs
        by_cases hz : l.length / 2 = 0
        · have hb2 : isDbl l 0 = false := by unfold isDbl; rw [hcut, decide_eq_false fun h => h.1 hz, Bool.false_and]
          rw [hb2] at hfb
          subst hfb
          rw [if_neg (by decide)] at hfs
          subst hfs
          have g1 : ((l.length : Int) / 2 == 0) = true := by rw [beq_iff_eq]; omega
          go_enter Tryz.func42, Tryz.ntmps42
          go_wp2_with (go_at_call 36; refine hcon.mono ?_; rintro e w1 ⟨lrp, lrc, rfl, ho, hx1⟩)
          go_ret3
          exact ⟨rfl, hx3.trans hx1⟩
        · have g1 : ((l.length : Int) / 2 == 0) = false := by rw [beq_eq_false_iff_ne]; omega
          have g2 : decide ((l.length : Int) < 2 * ((l.length : Int) / 2)) = false := decide_eq_false (by omega)
          have hlen : 2 * (l.length / 2) ≤ l.length := by omega
          by_cases hodd : l.length % 2 = 0
          · have hb2 : isDbl l 0 = sq (l.take (2 * (l.length / 2))) := by unfold isDbl; rw [hcut, decide_eq_true ⟨hz, hlen, fun h => h.2 hodd⟩, Bool.true_and]
            rw [hb2] at hfb
            have g3 : ((l.length : Int) % 2 != 0) = false := by rw [bne_eq_false_iff_eq]; omega
            cases hsq : sq (l.take (2 * (l.length / 2)))
            · rw [hsq] at hfb
              subst hfb
              rw [if_neg (by decide)] at hfs
              subst hfs
              go_enter Tryz.func42, Tryz.ntmps42
              go_wp2_with (first | (go_at_call 36; refine hcon.mono ?_; rintro e w1 ⟨lrp, lrc, rfl, ho, hx1⟩; obtain ⟨g, rfl, hgc, hgb⟩ := OwnRunes_some ho (by omega)) | (go_at_call 80; go_loud (refine (twice_take (m := l.length / 2) ho hlen (by omega)).mono ?_); rintro e w2 ⟨rfl, hx2⟩; rw [hsq]; have hcv := text_drop (m := l.length / 2) (ho.ext hx2)))
              go_ret3
              exact ⟨rfl, (hx3.trans hx1).trans hx2⟩
            · rw [hsq] at hfb
              subst hfb
              rw [if_pos rfl] at hfs
              subst hfs
              go_enter Tryz.func42, Tryz.ntmps42
              go_wp2_with (first | (go_at_call 36; refine hcon.mono ?_; rintro e w1 ⟨lrp, lrc, rfl, ho, hx1⟩; obtain ⟨g, rfl, hgc, hgb⟩ := OwnRunes_some ho (by omega)) | (go_at_call 80; go_loud (refine (twice_take (m := l.length / 2) ho hlen (by omega)).mono ?_); rintro e w2 ⟨rfl, hx2⟩; rw [hsq]; have hcv := text_drop (m := l.length / 2) (ho.ext hx2)))
              go_ret3
              exact ⟨rfl, (hx3.trans hx1).trans hx2⟩
          · have hb2 : isDbl l 0 = false := by unfold isDbl; rw [hcut, decide_eq_false fun h => h.2.2 ⟨rfl, hodd⟩, Bool.false_and]
            rw [hb2] at hfb
            subst hfb
            rw [if_neg (by decide)] at hfs
            subst hfs
            have g3 : ((l.length : Int) % 2 != 0) = true := by rw [bne_iff_ne]; omega
            go_enter Tryz.func42, Tryz.ntmps42
            go_wp2_with (go_at_call 36; refine hcon.mono ?_; rintro e w1 ⟨lrp, lrc, rfl, ho, hx1⟩)
            go_ret3
            exact ⟨rfl, hx3.trans hx1⟩
      · have hcut : cutN l m = m := if_neg hm
        rw [hcut] at hfs
        by_cases hlen : 2 * m ≤ l.length
        · have hb2 : isDbl l m = sq (l.take (2 * m)) := by unfold isDbl; rw [hcut, decide_eq_true ⟨hm, hlen, fun h => hm h.1⟩, Bool.true_and]
          rw [hb2] at hfb
          have g1 : ((m : Int) == 0) = false := by rw [beq_eq_false_iff_ne]; omega
          have g2 : decide ((l.length : Int) < 2 * m) = false := decide_eq_false (by omega)
          cases hsq : sq (l.take (2 * m))
          · rw [hsq] at hfb
            subst hfb
            rw [if_neg (by decide)] at hfs
            subst hfs
            go_enter Tryz.func42, Tryz.ntmps42
            go_wp2_with (first | (go_at_call 36; refine hcon.mono ?_; rintro e w1 ⟨lrp, lrc, rfl, ho, hx1⟩; obtain ⟨g, rfl, hgc, hgb⟩ := OwnRunes_some ho (by omega)) | (go_at_call 80; go_loud (refine (twice_take (m := m) ho hlen (by omega)).mono ?_); rintro e w2 ⟨rfl, hx2⟩; rw [hsq]; have hcv := text_drop (m := m) (ho.ext hx2)))
            go_ret3
            exact ⟨rfl, (hx3.trans hx1).trans hx2⟩
          · rw [hsq] at hfb
            subst hfb
            rw [if_pos rfl] at hfs
            subst hfs
            go_enter Tryz.func42, Tryz.ntmps42
            go_wp2_with (first | (go_at_call 36; refine hcon.mono ?_; rintro e w1 ⟨lrp, lrc, rfl, ho, hx1⟩; obtain ⟨g, rfl, hgc, hgb⟩ := OwnRunes_some ho (by omega)) | (go_at_call 80; go_loud (refine (twice_take (m := m) ho hlen (by omega)).mono ?_); rintro e w2 ⟨rfl, hx2⟩; rw [hsq]; have hcv := text_drop (m := m) (ho.ext hx2)))
            go_ret3
            exact ⟨rfl, (hx3.trans hx1).trans hx2⟩
        · have hb2 : isDbl l m = false := by unfold isDbl; rw [hcut, decide_eq_false fun h => hlen h.2.1, Bool.false_and]
          rw [hb2] at hfb
          subst hfb
          rw [if_neg (by decide)] at hfs
          subst hfs
          have g1 : ((m : Int) == 0) = false := by rw [beq_eq_false_iff_ne]; omega
          have g2 : decide ((l.length : Int) < 2 * m) = true := decide_eq_true (by omega)
          go_enter Tryz.func42, Tryz.ntmps42
          go_wp2_with (go_at_call 36; refine hcon.mono ?_; rintro e w1 ⟨lrp, lrc, rfl, ho, hx1⟩)
          go_ret3
          exact ⟨rfl, hx3.trans hx1⟩
  · have hn : (er != 0) = true := by rw [bne_iff_ne]; exact h0
    rw [if_pos h0] at hfe
    subst hfe
    rw [decide_eq_false h0, Bool.false_and] at hfb
    subst hfb
    rw [if_neg (by decide)] at hfs
    subst hfs
    go_enter Tryz.func42, Tryz.ntmps42
    go_wp2_with (go_at_call 36; refine hcon.mono ?_; rintro e w1 ⟨lrp, lrc, rfl, ho, hx1⟩)
    go_ret3
    exact ⟨rfl, hx3.trans hx1⟩

theorem sq_twice (a : List Int) : sq (a ++ a) = true := by
  rw [sq_iff]
  have e : (a ++ a).length / 2 = a.length := by rw [List.length_append]; omega
  refine ⟨by rw [List.length_append]; omega, ?_⟩
  rw [e, List.take_left, List.drop_left]
theorem sq_halves {l : List Int} (h : sq l = true) : l = l.take (l.length / 2) ++ l.take (l.length / 2) := by
  obtain ⟨_, h2⟩ := sq_iff.1 h
  conv => lhs; rw [← List.take_append_drop (l.length / 2) l, ← h2]
theorem singleS_none {A : Alpha} {s : ByteArray} {n : Int} (h : singleB A s n = false) : singleS A s n = ⟨#[]⟩ := by rw [singleS_eq, h]; rfl
theorem singleB_err {A : Alpha} {s : ByteArray} {n : Int} (h : singleE A s n ≠ 0) : singleB A s n = false := by rw [singleB_eq, decide_eq_false h]; rfl
theorem single_err {A : Alpha} {s : ByteArray} (n : Int) (h : (spell A s).2 ≠ 0) : singleE A s n = (spell A s).2 := by rw [singleE_eq, if_pos h]
theorem front_err {A : Alpha} {s : ByteArray} (n : Int) (h : (spell A s).2 ≠ 0) : frontE A s n = (spell A s).2 := by rw [frontE_eq, if_pos h]
theorem isDbl_zero (l : List Int) : isDbl l 0 = (decide (0 < l.length) && sq l) := by
  have hcut : cutN l 0 = l.length / 2 := if_pos rfl
  unfold isDbl
  rw [hcut]
  by_cases h : l.length % 2 = 0
  · by_cases h0 : 0 < l.length
    · rw [decide_eq_true ⟨by omega, by omega, fun c => c.2 h⟩, decide_eq_true h0, List.take_of_length_le (by omega)]
    · rw [decide_eq_false (fun c => by omega), decide_eq_false h0, Bool.false_and, Bool.false_and]
  · rw [decide_eq_false (fun c => c.2.2 ⟨rfl, h⟩), sq_odd h, Bool.false_and, Bool.and_false]
theorem isDbl_pos {l : List Int} {m : Nat} (hm : m ≠ 0) : isDbl l m = (decide (2 * m ≤ l.length) && sq (l.take (2 * m))) := by
  have hcut : cutN l m = m := if_neg hm
  unfold isDbl
  rw [hcut]
  by_cases h : 2 * m ≤ l.length
  · rw [decide_eq_true ⟨hm, h, fun c => hm c.1⟩, decide_eq_true h]
  · rw [decide_eq_false (fun c => h c.2.1), decide_eq_false h, Bool.false_and]
    try rw [Bool.false_and]
end Go.Proofs.YtcnhlogkhnoacaaGreatDoor

namespace Go.Proofs.YtcnhlogkhnoacaaGreatDoor
open Go.RowKit Go.Cg Go.Shelf Go.Maps
/-- single, of letters' text -/
theorem single_of {A : Alpha} (hA : A.Ok) {l : List Int} (hl : InA A l) (h64 : l.length ≤ 64) {m : Nat} (hm : m ≤ 64) :
    singleE A (runesBytes l) m = 0 ∧ singleB A (runesBytes l) m = isDbl l m ∧ (isDbl l m = true → singleS A (runesBytes l) m = runesBytes (l.drop (cutN l m))) := by
  have hs := spell_rb hA hl h64
  have e1 : singleE A (runesBytes l) m = 0 := by rw [singleE_eq, hs, if_neg (by simp), if_neg (by omega)]
  have e2 : singleB A (runesBytes l) m = isDbl l m := by rw [singleB_eq, e1, decide_eq_true rfl, Bool.true_and, hs, Int.toNat_natCast]
  exact ⟨e1, e2, fun h => by rw [singleS_eq, e2, if_pos h, hs, Int.toNat_natCast]⟩
theorem back1 {A : Alpha} (hA : A.Ok) {l : List Int} (hl : InA A l) {m : Nat} (h64 : l.length + m ≤ 64) (h0 : 0 < m) (hm : m ≤ l.length) :
    singleE A (runesBytes (l.take m ++ l)) m = 0 ∧ singleB A (runesBytes (l.take m ++ l)) m = true ∧ singleS A (runesBytes (l.take m ++ l)) m = runesBytes l := by
  have hlen : (l.take m ++ l).length = m + l.length := by rw [List.length_append, List.length_take]; omega
  obtain ⟨e1, e2, e3⟩ := single_of hA (InA_app (InA_take hl m) hl) (m := m) (by omega) (by omega)
  have hcut : cutN (l.take m ++ l) m = m := if_neg (by omega)
  have htl : (l.take m).length = m := by rw [List.length_take]; omega
  have hd : isDbl (l.take m ++ l) m = true := by
    unfold isDbl
    rw [hcut, hlen, decide_eq_true ⟨by omega, by omega, fun h => by omega⟩, Bool.true_and]
    have : (l.take m ++ l).take (2 * m) = l.take m ++ l.take m := by
      rw [List.take_append, htl, List.take_of_length_le (by omega), show 2 * m - m = m by omega]
    rw [this]; exact sq_twice _
  refine ⟨e1, e2.trans hd, ?_⟩
  rw [e3 hd, hcut]
  congr 1
  rw [List.drop_append, htl, List.drop_of_length_le (by omega), Nat.sub_self]; rfl
theorem back2 {A : Alpha} (hA : A.Ok) {l : List Int} (hl : InA A l) (h0 : 0 < l.length) (h64 : 2 * l.length ≤ 64) :
    singleE A (runesBytes (l ++ l)) 0 = 0 ∧ singleB A (runesBytes (l ++ l)) 0 = true ∧ singleS A (runesBytes (l ++ l)) 0 = runesBytes l := by
  have hlen : (l ++ l).length = 2 * l.length := by rw [List.length_append]; omega
  obtain ⟨e1, e2, e3⟩ := single_of hA (InA_app hl hl) (m := 0) (by omega) (by omega)
  have hcut : cutN (l ++ l) 0 = l.length := by unfold cutN; rw [if_pos rfl, hlen]; omega
  have hd : isDbl (l ++ l) 0 = true := by
    unfold isDbl
    rw [hcut, hlen, decide_eq_true ⟨by omega, by omega, fun h => by omega⟩, Bool.true_and, ← hlen, List.take_length]
    exact sq_twice _
  refine ⟨e1, e2.trans hd, ?_⟩
  have := e3 hd
  rw [hcut, List.drop_left] at this
  exact this
end Go.Proofs.YtcnhlogkhnoacaaGreatDoor
namespace Go.Cg
open Go.RowKit Go.Lib
/-- a byte that begins a rune -/
def ldB (b : UInt8) : Bool := !(decide (128 ≤ b.toNat ∧ b.toNat < 192))
theorem ldB_of {n : Nat} (h : n < 256) : ldB (UInt8.ofNat n) = !(decide (128 ≤ n ∧ n < 192)) := by unfold ldB; rw [u8_toNat h]
theorem ld_enc {r : Int} (h : runeOk r = true) : (Utf8.encode r).data.toList.countP ldB = 1 := by
  obtain ⟨h0, h1, _, hv⟩ := runeOk_facts h
  obtain ⟨c, rfl⟩ : ∃ c : Nat, r = c := ⟨r.toNat, by omega⟩
  have hc := valid_cases hv
  by_cases h128 : c < 128
  · rw [enc1 hv h128]
    simp only [List.countP_cons, List.countP_nil, ldB_of (show c < 256 by omega), show ¬ (128 ≤ c ∧ c < 192) by omega]
    simp
  · by_cases h2 : c < 2048
    · rw [enc2 hv (by omega) h2]
      simp only [List.countP_cons, List.countP_nil, ldB_of (show 192 + c / 64 < 256 by omega), ldB_of (show 128 + c % 64 < 256 by omega), show ¬ (128 ≤ 192 + c / 64 ∧ 192 + c / 64 < 192) by omega, show (128 ≤ 128 + c % 64 ∧ 128 + c % 64 < 192) by omega]
      simp
    · by_cases h3 : c < 65536
      · rw [enc3 hv (by omega) h3]
        simp only [List.countP_cons, List.countP_nil, ldB_of (show 224 + c / 4096 < 256 by omega), ldB_of (show 128 + c / 64 % 64 < 256 by omega), ldB_of (show 128 + c % 64 < 256 by omega), show ¬ (128 ≤ 224 + c / 4096 ∧ 224 + c / 4096 < 192) by omega, show (128 ≤ 128 + c / 64 % 64 ∧ 128 + c / 64 % 64 < 192) by omega, show (128 ≤ 128 + c % 64 ∧ 128 + c % 64 < 192) by omega]
        simp
      · rw [enc4 hv (by omega)]
        simp only [List.countP_cons, List.countP_nil, ldB_of (show 240 + c / 262144 < 256 by omega), ldB_of (show 128 + c / 4096 % 64 < 256 by omega), ldB_of (show 128 + c / 64 % 64 < 256 by omega), ldB_of (show 128 + c % 64 < 256 by omega), show ¬ (128 ≤ 240 + c / 262144 ∧ 240 + c / 262144 < 192) by omega, show (128 ≤ 128 + c / 4096 % 64 ∧ 128 + c / 4096 % 64 < 192) by omega, show (128 ≤ 128 + c / 64 % 64 ∧ 128 + c / 64 % 64 < 192) by omega, show (128 ≤ 128 + c % 64 ∧ 128 + c % 64 < 192) by omega]
        simp
/-- how many runes a text has, as bytes that begin one -/
def ldN (s : ByteArray) (k : Nat) : Nat := (s.data.toList.take k).countP ldB
theorem ldN_rb : ∀ l : List Int, (∀ r ∈ l, runeOk r = true) → (runesBytes l).data.toList.countP ldB = l.length
  | [], _ => rfl
  | r :: l, h => by
    rw [rb_cons, show (Utf8.encode r ++ runesBytes l).data.toList = (Utf8.encode r).data.toList ++ (runesBytes l).data.toList from by simp, List.countP_append, ld_enc (h r (List.mem_cons_self ..)), ldN_rb l (fun x hx => h x (List.mem_cons_of_mem _ hx)), List.length_cons]
    omega
theorem ldN_word {A : Alpha} {s : ByteArray} (h : (spell A s).2 = 0) : ldN s s.size = (spell A s).1.length := by
  obtain ⟨hA, hr, hi, _⟩ := spell_ok h
  have := ldN_rb (spell A s).1 (fun r hm => letter_ok hA (hi r hm))
  rw [hr] at this
  unfold ldN
  rw [List.take_of_length_le (by simp), this]
theorem ldN_succ {s : ByteArray} {k : Nat} (h : k < s.size) : ldN s (k + 1) = ldN s k + if ldB s[k] then 1 else 0 := by
  unfold ldN
  have h' : k < s.data.toList.length := by simpa using h
  rw [List.take_add_one, List.getElem?_eq_getElem h', Option.toList_some, List.countP_append, List.countP_cons, List.countP_nil, Nat.zero_add]
  rfl
theorem ldN_le (s : ByteArray) (k : Nat) : ldN s k ≤ k := by
  unfold ldN
  exact Nat.le_trans (List.countP_le_length ..) (List.length_take_le ..)
end Go.Cg
