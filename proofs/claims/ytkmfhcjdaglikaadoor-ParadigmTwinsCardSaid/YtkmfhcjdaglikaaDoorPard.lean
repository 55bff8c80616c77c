/- Double's contracts beside Letz, and plain laws of ParadigmTwins. -/
import Derived.Test.YtkmfhcjdaglikaaDoorLetz
import Derived.Test.YtkmfhcjdaglikaaDoorDouba
import Derived.Test.YtkmfhcjdaglikaaDoorParc
import Derived.Test.YtkmfhcjdaglikaaDoorRadk
import Derived.Test.YtkmfhcjdaglikaaDoorRade
namespace Go.Proofs.YtkmfhcjdaglikaaDoor
open Go.RowKit Go.Cg Go.Shelf Go.Maps

set_option maxHeartbeats 1000000 in
theorem dput_any (p : Option Addr) (c : Nat) (l : List Int) (n : Nat) (w : World) (h : RunesAt w p l) (hp : (∃ b off, p = some ⟨b, off, none⟩) ∨ (p = none ∧ c = 0)) (hc : l.length ≤ c) (hn : n ≤ l.length) (h64 : l.length ≤ 64) :
    Calls Tryd.prog 35 #[.slice p l.length c, .int .i64 n] w fun e w' => e = .returned (.string (runesBytes (l.take n ++ l))) ∧ Ext w w' := by
  have hbig := h.big
  have hcv : ∀ W, Ext w W → (convert 75 9 (.slice p l.length c)).run Tryd.prog W = .ok (.string (runesBytes l)) W := fun W hW =>
    (h.mono hW).text (P := Tryd.prog) (src := 75) (dst := 9) Tryd.underlying75 Tryd.underlying21 Tryd.underlying9 c
  have hcw : ∀ W, Ext w W → (convert 75 9 (.slice p n c)).run Tryd.prog W = .ok (.string (runesBytes (l.take n))) W := by
    intro W hW
    have := ((h.take n).mono hW).text (P := Tryd.prog) (src := 75) (dst := 9) Tryd.underlying75 Tryd.underlying21 Tryd.underlying9 c
    rw [List.length_take, Nat.min_eq_left hn] at this
    exact this
  rw [rb_append]
  have hs1 := rb_size_le (l.take n)
  have hs2 := rb_size_le l
  rw [List.length_take, Nat.min_eq_left hn] at hs1
  have hs3 : ((runesBytes (l.take n)).size : Int) ≤ 8388608 := by omega
  have hs4 : ((runesBytes l).size : Int) ≤ 8388608 := by omega
  have hs5 : (runesBytes (l.take n)).size + (runesBytes l).size ≤ 9223372036854775807 := by omega
  rcases hp with ⟨b, off, rfl⟩ | ⟨rfl, rfl⟩
  · go_enter Tryd.func35, Tryd.ntmps35
    go_wp2_with fail
    (refine wp_region_ext (by kernel_rfl) (by kernel_rfl) ?_; intro ι hι g hg; have q_hcv := fun i => hcv _ (hg.ext i); have q_hcw := fun i => hcw _ (hg.ext i); clear hcv hcw; (repeat (go_big_quiet_step (fail))); refine wpQuiet_nil ?_; rintro w2 ⟨i2, rfl⟩; have hq := hg.ext i2; generalize g i2 = w2 at hq ⊢; clear q_hcv q_hcw i2 hg g hι ι)
    go_wp2_with fail
    go_ret
    exact ⟨rfl, hq⟩
  · go_enter Tryd.func35, Tryd.ntmps35
    go_wp2_with fail
    (refine wp_region_ext (by kernel_rfl) (by kernel_rfl) ?_; intro ι hι g hg; have q_hcv := fun i => hcv _ (hg.ext i); have q_hcw := fun i => hcw _ (hg.ext i); clear hcv hcw; (repeat (go_big_quiet_step (fail))); refine wpQuiet_nil ?_; rintro w2 ⟨i2, rfl⟩; have hq := hg.ext i2; generalize g i2 = w2 at hq ⊢; clear q_hcv q_hcw i2 hg g hι ι)
    go_wp2_with fail
    go_ret
    exact ⟨rfl, hq⟩

def frontE (A : Alpha) (s : ByteArray) (n : Int) : Int := if (spell A s).2 ≠ 0 then (spell A s).2 else if n < 0 ∨ 64 < n then 2 else if ((spell A s).1.length : Int) < n then 150 else 0
def frontS (A : Alpha) (s : ByteArray) (n : Int) : ByteArray := if frontE A s n = 0 then runesBytes ((spell A s).1.take n.toNat ++ (spell A s).1) else ⟨#[]⟩
theorem frontE_eq (A : Alpha) (s : ByteArray) (n : Int) : frontE A s n = if (spell A s).2 ≠ 0 then (spell A s).2 else if n < 0 ∨ 64 < n then 2 else if ((spell A s).1.length : Int) < n then 150 else 0 := rfl
theorem frontS_eq (A : Alpha) (s : ByteArray) (n : Int) : frontS A s n = if frontE A s n = 0 then runesBytes ((spell A s).1.take n.toNat ++ (spell A s).1) else ⟨#[]⟩ := rfl

set_option maxHeartbeats 1000000 in
theorem front_any (fp lp : Option Addr) (fc lc : Nat) (A : Alpha) (s : ByteArray) (n : Int) (hs : s.size ≤ 140737488351232) (hn : -9223372036854775808 ≤ n ∧ n ≤ 9223372036854775807) (w : World) (hA : AlphaAt w fp lp A) (hT : Tabs w) :
    Calls Tryd.prog 22 #[.agg #[.slice fp A.feats.length fc, .slice lp A.lets.length lc], .string s, .int .i64 n] w fun e w' => e = .returned (.tuple #[.string (frontS A s n), .int .i64 (frontE A s n)]) ∧ Ext w w' := by
  have hx3 : Ext w (w.alloc (.cells #[.slice fp A.feats.length fc, .slice lp A.lets.length lc] 26)) := (Ext.refl _).alloc _
  have hcon := letters_any fp lp fc lc A s hs _ (hA.mono hx3) (hT.ext hx3)
  have h64 := spell_len A s
  have hfe := frontE_eq A s n
  have hfs := frontS_eq A s n
  obtain ⟨F, hF⟩ : ∃ F, frontE A s n = F := ⟨_, rfl⟩
  obtain ⟨S, hS⟩ : ∃ S, frontS A s n = S := ⟨_, rfl⟩
  rw [hF] at hfe hfs
  rw [hS] at hfs
  rw [hF, hS]
  clear hF hS
  obtain ⟨l, hl⟩ : ∃ l, (spell A s).1 = l := ⟨_, rfl⟩
  obtain ⟨er, her⟩ : ∃ er, (spell A s).2 = er := ⟨_, rfl⟩
  rw [hl, her] at hcon hfe
  rw [hl] at h64 hfs
  clear hl her
  by_cases h0 : er = 0
  · subst h0
    rw [if_neg (by decide : ¬ ((0 : Int) ≠ 0))] at hfe
    by_cases h1 : n < 0
    · rw [if_pos (.inl h1)] at hfe
      subst hfe
      rw [if_neg (by decide)] at hfs
      subst hfs
      go_enter Tryd.func22, Tryd.ntmps22
      go_wp2_with (go_at_call 33; refine hcon.mono ?_; rintro e w1 ⟨lrp, lrc, rfl, ho, hx1⟩)
      go_ret2
      exact ⟨rfl, hx3.trans hx1⟩
    · by_cases h2 : 64 < n
      · rw [if_pos (.inr h2)] at hfe
        subst hfe
        rw [if_neg (by decide)] at hfs
        subst hfs
        go_enter Tryd.func22, Tryd.ntmps22
        go_wp2_with (go_at_call 33; refine hcon.mono ?_; rintro e w1 ⟨lrp, lrc, rfl, ho, hx1⟩)
        go_ret2
        exact ⟨rfl, hx3.trans hx1⟩
      · rw [if_neg (by omega)] at hfe
        by_cases h3 : (l.length : Int) < n
        · rw [if_pos h3] at hfe
          subst hfe
          rw [if_neg (by decide)] at hfs
          subst hfs
          go_enter Tryd.func22, Tryd.ntmps22
          go_wp2_with (go_at_call 33; refine hcon.mono ?_; rintro e w1 ⟨lrp, lrc, rfl, ho, hx1⟩)
          go_ret2
          exact ⟨rfl, hx3.trans hx1⟩
        · rw [if_neg h3] at hfe
          subst hfe
          rw [if_pos rfl] at hfs
          subst hfs
          obtain ⟨m, rfl⟩ : ∃ m : Nat, n = m := ⟨n.toNat, by omega⟩
          rw [Int.toNat_natCast]
          go_enter Tryd.func22, Tryd.ntmps22
          go_wp2_with (first | (go_at_call 33; refine hcon.mono ?_; rintro e w1 ⟨lrp, lrc, rfl, ho, hx1⟩) | (go_at_call 35; refine (dput_any _ _ _ _ _ ho.at_ (OwnRunes_form ho).1 (OwnRunes_form ho).2 (by omega) h64).mono ?_; rintro e w2 ⟨rfl, hx2⟩))
          go_ret2
          exact ⟨rfl, (hx3.trans hx1).trans hx2⟩
  · have hn : (er != 0) = true := by rw [bne_iff_ne]; exact h0
    rw [if_pos h0] at hfe
    subst hfe
    rw [if_neg h0] at hfs
    subst hfs
    go_enter Tryd.func22, Tryd.ntmps22
    go_wp2_with (go_at_call 33; refine hcon.mono ?_; rintro e w1 ⟨lrp, lrc, rfl, ho, hx1⟩)
    go_ret2
    exact ⟨rfl, hx3.trans hx1⟩

def wholeS (A : Alpha) (s : ByteArray) : ByteArray := if (spell A s).2 = 0 then runesBytes ((spell A s).1 ++ (spell A s).1) else ⟨#[]⟩
theorem wholeS_eq (A : Alpha) (s : ByteArray) : wholeS A s = if (spell A s).2 = 0 then runesBytes ((spell A s).1 ++ (spell A s).1) else ⟨#[]⟩ := rfl

set_option maxHeartbeats 1000000 in
theorem whole_any (fp lp : Option Addr) (fc lc : Nat) (A : Alpha) (s : ByteArray) (hs : s.size ≤ 140737488351232) (w : World) (hA : AlphaAt w fp lp A) (hT : Tabs w) :
    Calls Tryd.prog 23 #[.agg #[.slice fp A.feats.length fc, .slice lp A.lets.length lc], .string s] w fun e w' => e = .returned (.tuple #[.string (wholeS A s), .int .i64 (spell A s).2]) ∧ Ext w w' := by
  have hx3 : Ext w (w.alloc (.cells #[.slice fp A.feats.length fc, .slice lp A.lets.length lc] 26)) := (Ext.refl _).alloc _
  have hcon := letters_any fp lp fc lc A s hs _ (hA.mono hx3) (hT.ext hx3)
  have h64 := spell_len A s
  have hfs := wholeS_eq A s
  obtain ⟨S, hS⟩ : ∃ S, wholeS A s = S := ⟨_, rfl⟩
  rw [hS] at hfs
  rw [hS]
  clear hS
  obtain ⟨l, hl⟩ : ∃ l, (spell A s).1 = l := ⟨_, rfl⟩
  obtain ⟨er, her⟩ : ∃ er, (spell A s).2 = er := ⟨_, rfl⟩
  rw [hl, her] at hcon hfs
  rw [hl] at h64
  rw [her]
  clear hl her
  by_cases h0 : er = 0
  · subst h0
    rw [if_pos rfl] at hfs
    subst hfs
    go_enter Tryd.func23, Tryd.ntmps23
    go_wp2_with (first | (go_at_call 33; refine hcon.mono ?_; rintro e w1 ⟨lrp, lrc, rfl, ho, hx1⟩; have hput := dput_any _ _ _ l.length _ ho.at_ (OwnRunes_form ho).1 (OwnRunes_form ho).2 (Nat.le_refl _) h64; rw [List.take_length] at hput) | (go_at_call 35; refine hput.mono ?_; rintro e w2 ⟨rfl, hx2⟩))
    go_ret2
    exact ⟨rfl, (hx3.trans hx1).trans hx2⟩
  · have hn : (er != 0) = true := by rw [bne_iff_ne]; exact h0
    rw [if_neg h0] at hfs
    subst hfs
    go_enter Tryd.func23, Tryd.ntmps23
    go_wp2_with (go_at_call 33; refine hcon.mono ?_; rintro e w1 ⟨lrp, lrc, rfl, ho, hx1⟩)
    go_ret2
    exact ⟨rfl, hx3.trans hx1⟩

/-- where a word is cut to be single -/
def cutN (l : List Int) (n : Nat) : Nat := if n = 0 then l.length / 2 else n
def isDbl (l : List Int) (n : Nat) : Bool := decide (cutN l n ≠ 0 ∧ 2 * cutN l n ≤ l.length ∧ ¬ (n = 0 ∧ l.length % 2 ≠ 0)) && sq (l.take (2 * cutN l n))
def singleE (A : Alpha) (s : ByteArray) (n : Int) : Int := if (spell A s).2 ≠ 0 then (spell A s).2 else if n < 0 ∨ 64 < n then 2 else 0
def singleB (A : Alpha) (s : ByteArray) (n : Int) : Bool := decide (singleE A s n = 0) && isDbl (spell A s).1 n.toNat
def singleS (A : Alpha) (s : ByteArray) (n : Int) : ByteArray := if singleB A s n = true then runesBytes ((spell A s).1.drop (cutN (spell A s).1 n.toNat)) else ⟨#[]⟩
theorem singleE_eq (A : Alpha) (s : ByteArray) (n : Int) : singleE A s n = if (spell A s).2 ≠ 0 then (spell A s).2 else if n < 0 ∨ 64 < n then 2 else 0 := rfl
theorem singleB_eq (A : Alpha) (s : ByteArray) (n : Int) : singleB A s n = (decide (singleE A s n = 0) && isDbl (spell A s).1 n.toNat) := rfl
theorem singleS_eq (A : Alpha) (s : ByteArray) (n : Int) : singleS A s n = if singleB A s n = true then runesBytes ((spell A s).1.drop (cutN (spell A s).1 n.toNat)) else ⟨#[]⟩ := rfl

theorem cutL_drop (l : List Int) (m : Nat) : cutL l m l.length = l.drop m := by unfold cutL; exact List.take_of_length_le (by rw [List.length_drop]; omega)

theorem twice_take {T B : Nat} {w : World} {g c : Nat} {l : List Int} {m : Nat} (h : OwnRunes T B w (some ⟨g, 0, none⟩) c l) (hl : 2 * m ≤ l.length) (hm : 0 < m) :
    Calls Tryd.prog 36 #[.slice (some ⟨g, 0, none⟩) (2 * m) c] w fun e w' => e = .returned (.bool (sq (l.take (2 * m)))) ∧ Ext w w' := by
  have hc := (OwnRunes_form h).2
  have := twice_any g 0 c (l.take (2 * m)) w (h.at_.take (2 * m)) (by rw [List.length_take]; omega) (by rw [List.length_take]; omega)
  rw [List.length_take, Nat.min_eq_left hl] at this
  exact this
theorem text_drop {T B : Nat} {w : World} {g c : Nat} {l : List Int} {m : Nat} (h : OwnRunes T B w (some ⟨g, 0, none⟩) c l) :
    (convert 75 9 (.slice (some ⟨g, m, none⟩) (l.length - m) (c - m))).run Tryd.prog w = .ok (.string (runesBytes (l.drop m))) w := by
  have := (h.at_.cut m l.length (Nat.le_refl _)).text (P := Tryd.prog) (src := 75) (dst := 9) Tryd.underlying75 Tryd.underlying21 Tryd.underlying9 (c - m)
  rw [cutL_length _ _ _ (Nat.le_refl _), Nat.zero_add, cutL_drop] at this
  exact this

set_option maxHeartbeats 2000000 in
theorem single_any (fp lp : Option Addr) (fc lc : Nat) (A : Alpha) (s : ByteArray) (n : Int) (hs : s.size ≤ 140737488351232) (hn : -9223372036854775808 ≤ n ∧ n ≤ 9223372036854775807) (w : World) (hA : AlphaAt w fp lp A) (hT : Tabs w) :
    Calls Tryd.prog 24 #[.agg #[.slice fp A.feats.length fc, .slice lp A.lets.length lc], .string s, .int .i64 n] w fun e w' => e = .returned (.tuple #[.string (singleS A s n), .bool (singleB A s n), .int .i64 (singleE A s n)]) ∧ Ext w w' := by
  have hx3 : Ext w (w.alloc (.cells #[.slice fp A.feats.length fc, .slice lp A.lets.length lc] 26)) := (Ext.refl _).alloc _
  have hcon := letters_any fp lp fc lc A s hs _ (hA.mono hx3) (hT.ext hx3)
  have h64 := spell_len A s
  have hfe := singleE_eq A s n
  have hfb := singleB_eq A s n
  have hfs := singleS_eq A s n
  obtain ⟨F, hF⟩ : ∃ F, singleE A s n = F := ⟨_, rfl⟩
  obtain ⟨B, hB⟩ : ∃ B, singleB A s n = B := ⟨_, rfl⟩
  obtain ⟨S, hS⟩ : ∃ S, singleS A s n = S := ⟨_, rfl⟩
  rw [hF] at hfe hfb
  rw [hB] at hfb hfs
  rw [hS] at hfs
  rw [hF, hB, hS]
  clear hF hB hS
  obtain ⟨l, hl⟩ : ∃ l, (spell A s).1 = l := ⟨_, rfl⟩
  obtain ⟨er, her⟩ : ∃ er, (spell A s).2 = er := ⟨_, rfl⟩
  rw [hl, her] at hcon
  rw [her] at hfe
  rw [hl] at h64 hfs hfb
  clear hl her
  by_cases h0 : er = 0
  · subst h0
    rw [if_neg (by decide : ¬ ((0 : Int) ≠ 0))] at hfe
    by_cases h1 : n < 0 ∨ 64 < n
    · rw [if_pos h1] at hfe
      subst hfe
      rw [decide_eq_false (by decide), Bool.false_and] at hfb
      subst hfb
      rw [if_neg (by decide)] at hfs
      subst hfs
      rcases h1 with h1 | h1
      all_goals
        go_enter Tryd.func24, Tryd.ntmps24
        go_wp2_with (go_at_call 33; refine hcon.mono ?_; rintro e w1 ⟨lrp, lrc, rfl, ho, hx1⟩)
        go_ret3
        exact ⟨rfl, hx3.trans hx1⟩
    · rw [if_neg h1] at hfe
      subst hfe
      rw [decide_eq_true rfl, Bool.true_and] at hfb
      obtain ⟨m, rfl⟩ : ∃ m : Nat, n = m := ⟨n.toNat, by omega⟩
      rw [Int.toNat_natCast] at hfb hfs
      by_cases hm : m = 0
      · subst hm
        have hcut : cutN l 0 = l.length / 2 := if_pos rfl
        rw [hcut] at hfs
        by_cases hz : l.length / 2 = 0
        · have hb2 : isDbl l 0 = false := by unfold isDbl; rw [hcut, decide_eq_false fun h => h.1 hz, Bool.false_and]
          rw [hb2] at hfb
          subst hfb
          rw [if_neg (by decide)] at hfs
          subst hfs
          have g1 : ((l.length : Int) / 2 == 0) = true := by rw [beq_iff_eq]; omega
          go_enter Tryd.func24, Tryd.ntmps24
          go_wp2_with (go_at_call 33; refine hcon.mono ?_; rintro e w1 ⟨lrp, lrc, rfl, ho, hx1⟩)
          go_ret3
          exact ⟨rfl, hx3.trans hx1⟩
        · have g1 : ((l.length : Int) / 2 == 0) = false := by rw [beq_eq_false_iff_ne]; omega
          have g2 : decide ((l.length : Int) < 2 * ((l.length : Int) / 2)) = false := decide_eq_false (by omega)
          have hlen : 2 * (l.length / 2) ≤ l.length := by omega
          by_cases hodd : l.length % 2 = 0
          · have hb2 : isDbl l 0 = sq (l.take (2 * (l.length / 2))) := by unfold isDbl; rw [hcut, decide_eq_true ⟨hz, hlen, fun h => h.2 hodd⟩, Bool.true_and]
            rw [hb2] at hfb
            have g3 : ((l.length : Int) % 2 != 0) = false := by rw [bne_eq_false_iff_eq]; omega
            cases hsq : sq (l.take (2 * (l.length / 2)))
            · rw [hsq] at hfb
              subst hfb
              rw [if_neg (by decide)] at hfs
              subst hfs
              go_enter Tryd.func24, Tryd.ntmps24
              go_wp2_with (first | (go_at_call 33; refine hcon.mono ?_; rintro e w1 ⟨lrp, lrc, rfl, ho, hx1⟩; obtain ⟨g, rfl, hgc, hgb⟩ := OwnRunes_some ho (by omega)) | (go_at_call 36; go_loud (refine (twice_take (m := l.length / 2) ho hlen (by omega)).mono ?_); rintro e w2 ⟨rfl, hx2⟩; rw [hsq]; have hcv := text_drop (m := l.length / 2) (ho.ext hx2)))
              go_ret3
              exact ⟨rfl, (hx3.trans hx1).trans hx2⟩
            · rw [hsq] at hfb
              subst hfb
              rw [if_pos rfl] at hfs
              subst hfs
              go_enter Tryd.func24, Tryd.ntmps24
              go_wp2_with (first | (go_at_call 33; refine hcon.mono ?_; rintro e w1 ⟨lrp, lrc, rfl, ho, hx1⟩; obtain ⟨g, rfl, hgc, hgb⟩ := OwnRunes_some ho (by omega)) | (go_at_call 36; go_loud (refine (twice_take (m := l.length / 2) ho hlen (by omega)).mono ?_); rintro e w2 ⟨rfl, hx2⟩; rw [hsq]; have hcv := text_drop (m := l.length / 2) (ho.ext hx2)))
              go_ret3
              exact ⟨rfl, (hx3.trans hx1).trans hx2⟩
          · have hb2 : isDbl l 0 = false := by unfold isDbl; rw [hcut, decide_eq_false fun h => h.2.2 ⟨rfl, hodd⟩, Bool.false_and]
            rw [hb2] at hfb
            subst hfb
            rw [if_neg (by decide)] at hfs
            subst hfs
            have g3 : ((l.length : Int) % 2 != 0) = true := by rw [bne_iff_ne]; omega
            go_enter Tryd.func24, Tryd.ntmps24
            go_wp2_with (go_at_call 33; refine hcon.mono ?_; rintro e w1 ⟨lrp, lrc, rfl, ho, hx1⟩)
            go_ret3
            exact ⟨rfl, hx3.trans hx1⟩
      · have hcut : cutN l m = m := if_neg hm
        rw [hcut] at hfs
        by_cases hlen : 2 * m ≤ l.length
        · have hb2 : isDbl l m = sq (l.take (2 * m)) := by unfold isDbl; rw [hcut, decide_eq_true ⟨hm, hlen, fun h => hm h.1⟩, Bool.true_and]
          rw [hb2] at hfb
          have g1 : ((m : Int) == 0) = false := by rw [beq_eq_false_iff_ne]; omega
          have g2 : decide ((l.length : Int) < 2 * m) = false := decide_eq_false (by omega)
          cases hsq : sq (l.take (2 * m))
          · rw [hsq] at hfb
            subst hfb
            rw [if_neg (by decide)] at hfs
            subst hfs
            go_enter Tryd.func24, Tryd.ntmps24
            go_wp2_with (first | (go_at_call 33; refine hcon.mono ?_; rintro e w1 ⟨lrp, lrc, rfl, ho, hx1⟩; obtain ⟨g, rfl, hgc, hgb⟩ := OwnRunes_some ho (by omega)) | (go_at_call 36; go_loud (refine (twice_take (m := m) ho hlen (by omega)).mono ?_); rintro e w2 ⟨rfl, hx2⟩; rw [hsq]; have hcv := text_drop (m := m) (ho.ext hx2)))
            go_ret3
            exact ⟨rfl, (hx3.trans hx1).trans hx2⟩
          · rw [hsq] at hfb
            subst hfb
            rw [if_pos rfl] at hfs
            subst hfs
            go_enter Tryd.func24, Tryd.ntmps24
            go_wp2_with (first | (go_at_call 33; refine hcon.mono ?_; rintro e w1 ⟨lrp, lrc, rfl, ho, hx1⟩; obtain ⟨g, rfl, hgc, hgb⟩ := OwnRunes_some ho (by omega)) | (go_at_call 36; go_loud (refine (twice_take (m := m) ho hlen (by omega)).mono ?_); rintro e w2 ⟨rfl, hx2⟩; rw [hsq]; have hcv := text_drop (m := m) (ho.ext hx2)))
            go_ret3
            exact ⟨rfl, (hx3.trans hx1).trans hx2⟩
        · have hb2 : isDbl l m = false := by unfold isDbl; rw [hcut, decide_eq_false fun h => hlen h.2.1, Bool.false_and]
          rw [hb2] at hfb
          subst hfb
          rw [if_neg (by decide)] at hfs
          subst hfs
          have g1 : ((m : Int) == 0) = false := by rw [beq_eq_false_iff_ne]; omega
          have g2 : decide ((l.length : Int) < 2 * m) = true := decide_eq_true (by omega)
          go_enter Tryd.func24, Tryd.ntmps24
          go_wp2_with (go_at_call 33; refine hcon.mono ?_; rintro e w1 ⟨lrp, lrc, rfl, ho, hx1⟩)
          go_ret3
          exact ⟨rfl, hx3.trans hx1⟩
  · have hn : (er != 0) = true := by rw [bne_iff_ne]; exact h0
    rw [if_pos h0] at hfe
    subst hfe
    rw [decide_eq_false h0, Bool.false_and] at hfb
    subst hfb
    rw [if_neg (by decide)] at hfs
    subst hfs
    go_enter Tryd.func24, Tryd.ntmps24
    go_wp2_with (go_at_call 33; refine hcon.mono ?_; rintro e w1 ⟨lrp, lrc, rfl, ho, hx1⟩)
    go_ret3
    exact ⟨rfl, hx3.trans hx1⟩

theorem sq_twice (a : List Int) : sq (a ++ a) = true := by
  rw [sq_iff]
  have e : (a ++ a).length / 2 = a.length := by rw [List.length_append]; omega
  refine ⟨by rw [List.length_append]; omega, ?_⟩
  rw [e, List.take_left, List.drop_left]
theorem sq_halves {l : List Int} (h : sq l = true) : l = l.take (l.length / 2) ++ l.take (l.length / 2) := by
  obtain ⟨_, h2⟩ := sq_iff.1 h
  conv => lhs; rw [← List.take_append_drop (l.length / 2) l, ← h2]
theorem singleS_none {A : Alpha} {s : ByteArray} {n : Int} (h : singleB A s n = false) : singleS A s n = ⟨#[]⟩ := by rw [singleS_eq, h]; rfl
theorem singleB_err {A : Alpha} {s : ByteArray} {n : Int} (h : singleE A s n ≠ 0) : singleB A s n = false := by rw [singleB_eq, decide_eq_false h]; rfl
theorem single_err {A : Alpha} {s : ByteArray} (n : Int) (h : (spell A s).2 ≠ 0) : singleE A s n = (spell A s).2 := by rw [singleE_eq, if_pos h]
theorem front_err {A : Alpha} {s : ByteArray} (n : Int) (h : (spell A s).2 ≠ 0) : frontE A s n = (spell A s).2 := by rw [frontE_eq, if_pos h]
theorem isDbl_zero (l : List Int) : isDbl l 0 = (decide (0 < l.length) && sq l) := by
  have hcut : cutN l 0 = l.length / 2 := if_pos rfl
  unfold isDbl
  rw [hcut]
  by_cases h : l.length % 2 = 0
  · by_cases h0 : 0 < l.length
    · rw [decide_eq_true ⟨by omega, by omega, fun c => c.2 h⟩, decide_eq_true h0, List.take_of_length_le (by omega)]
    · rw [decide_eq_false (fun c => by omega), decide_eq_false h0, Bool.false_and, Bool.false_and]
  · rw [decide_eq_false (fun c => c.2.2 ⟨rfl, h⟩), sq_odd h, Bool.false_and, Bool.and_false]
theorem isDbl_pos {l : List Int} {m : Nat} (hm : m ≠ 0) : isDbl l m = (decide (2 * m ≤ l.length) && sq (l.take (2 * m))) := by
  have hcut : cutN l m = m := if_neg hm
  unfold isDbl
  rw [hcut]
  by_cases h : 2 * m ≤ l.length
  · rw [decide_eq_true ⟨hm, h, fun c => hm c.1⟩, decide_eq_true h]
  · rw [decide_eq_false (fun c => h c.2.1), decide_eq_false h, Bool.false_and]
    try rw [Bool.false_and]
end Go.Proofs.YtkmfhcjdaglikaaDoor

namespace Go.Proofs.YtkmfhcjdaglikaaDoor
open Go.RowKit Go.Cg Go.Shelf Go.Maps

def dblA (n : Int) : Aff := ⟨6, ⟨#[]⟩, ⟨#[]⟩, n⟩
def shpA (f : ByteArray) : Aff := ⟨5, f, ⟨#[]⟩, 0⟩
theorem dblA_aff (A : Alpha) (n : Int) : affB A (dblA n) = decide (0 ≤ n ∧ n ≤ 64) := rfl
theorem shpA_aff (A : Alpha) (f : ByteArray) : affB A (shpA f) = formB A f := by
  show (formB A f && decide ((⟨#[]⟩ : ByteArray).size = 0) && decide ((0 : Int) = 0)) = _
  rw [show decide ((⟨#[]⟩ : ByteArray).size = 0) = true from rfl, show decide ((0 : Int) = 0) = true from rfl, Bool.and_true, Bool.and_true]
theorem dblA_mk (A : Alpha) (v : Nat) (n : Int) (l : List Int) : mkL A v (dblA n) l = if l.length < n.toNat then ([], 150) else if n.toNat = 0 then (l ++ l, 0) else (l.take n.toNat ++ l, 0) := rfl
theorem dblA_off (A : Alpha) (v : Nat) (n : Int) (l : List Int) : offC A v (dblA n) l = if n.toNat = 0 then some (l.drop (l.length / 2)) else if 2 * n.toNat ≤ l.length then some (l.drop n.toNat) else none := rfl
theorem shpA_mk (A : Alpha) (v : Nat) (f : ByteArray) (l : List Int) : mkL A v (shpA f) l = if holeN (formL A f) = (rootL A v l).length then (fillTo (rootL A v l) (formL A f) (formL A f).length, 0) else ([], 130) := rfl
theorem shpA_off (A : Alpha) (v : Nat) (f : ByteArray) (l : List Int) : offC A v (shpA f) l = if l.length = (formL A f).length ∧ consB A v l (formL A f) = true then some (atHoles l (formL A f) (formL A f).length) else none := rfl

/-- what double's call makes -/
def dE (A : Alpha) (w : ByteArray) (n : Int) : Int := if n = 0 then (spell A w).2 else frontE A w n
def dS (A : Alpha) (w : ByteArray) (n : Int) : ByteArray := if n = 0 then wholeS A w else frontS A w n

theorem classE_cases (A : Alpha) (v : Nat) : classE A v 0 = 0 ∨ (classE A v 0 = 20) ∨ ¬ A.Ok := by
  by_cases hA : A.Ok
  · rw [classE_may hA]
    split
    · exact .inl rfl
    · exact .inr (.inl rfl)
  · exact .inr (.inr hA)
theorem spell_bad {A : Alpha} (h : ¬ A.Ok) (w : ByteArray) : (spell A w).2 = 7 := by unfold spell; rw [if_neg h]
theorem frontE_bad {A : Alpha} {w : ByteArray} (h : (spell A w).2 ≠ 0) (n : Int) : dE A w n ≠ 0 := by
  unfold dE; split
  · exact h
  · rw [front_err n h]; exact h

/-- put doubled: where it is refused -/
theorem dbl_err {A : Alpha} {v : Nat} {w : ByteArray} {n : Int} (h : putE A v w (dblA n) ≠ 0) : dE A w n ≠ 0 ∨ putE A v w (dblA n) = 20 := by
  by_cases h1 : oneE A v w (dblA n) = 0
  · obtain ⟨c1, c2, c3⟩ := oneE_ok h1
    rw [dblA_aff] at c3
    have c3 := of_decide_eq_true c3
    have hp : putE A v w (dblA n) = (putC A v (dblA n) (spell A w).1).2 := by unfold putE; rw [h1]; simp
    have h64 := spell_len A w
    left
    unfold putC at hp
    rw [dblA_mk] at hp
    by_cases hlt : (spell A w).1.length < n.toNat
    · unfold dE
      rw [if_neg (by omega)]
      unfold frontE
      rw [if_neg (fun c => c c2), if_neg (by omega), if_pos (by omega)]; decide
    · rw [if_neg hlt] at hp
      exfalso
      by_cases h0 : n.toNat = 0
      · rw [if_pos h0, if_neg (by simp), if_neg (by simp; omega)] at hp
        exact h hp
      · rw [if_neg h0, if_neg (by simp), if_neg (by rw [List.length_append, List.length_take]; omega)] at hp
        exact h hp
  · have hp : putE A v w (dblA n) = oneE A v w (dblA n) := if_pos h1
    rw [hp]
    rcases classE_cases A v with c | c | c
    · by_cases c2 : (spell A w).2 = 0
      · left
        have h3 : ¬ affB A (dblA n) = true := fun h3 => h1 (oneE_mk c c2 h3)
        rw [dblA_aff, decide_eq_true_eq] at h3
        unfold dE
        rw [if_neg (by omega)]
        unfold frontE
        rw [if_neg (fun c => c c2), if_pos (by omega)]; decide
      · exact .inl (frontE_bad c2 n)
    · right; unfold oneE; rw [if_pos (by rw [c]; decide), c]
    · exact .inl (frontE_bad (by rw [spell_bad c]; decide) n)
/-- put doubled: double's word -/
theorem dbl_ok {A : Alpha} {v : Nat} {w : ByteArray} {n : Int} (h : putE A v w (dblA n) = 0) : dE A w n = 0 ∧ dS A w n = putS A v w (dblA n) ∧ singleE A w n = 0 ∧ oneE A v w (dblA n) = 0 ∧
    (0 < w.size → (singleB A w n = true ↔ (offS A v w (dblA n)).length = 1) ∧ (singleB A w n = true → offS A v w (dblA n) = [singleS A w n])) := by
  obtain ⟨h1, h2⟩ := putE_ok h
  obtain ⟨c1, c2, c3⟩ := oneE_ok h1
  rw [dblA_aff] at c3
  have c3 := of_decide_eq_true c3
  obtain ⟨hA, hw, hin, h64⟩ := spell_ok c2
  obtain ⟨m0, m1, m2⟩ := putC_ok h2
  have hps : putS A v w (dblA n) = runesBytes (mkL A v (dblA n) (spell A w).1).1 := by unfold putS; rw [if_pos h, m2]
  rw [dblA_mk] at m0 hps
  have hle : ¬ (spell A w).1.length < n.toNat := fun hlt => by rw [if_pos hlt] at m0; cases m0
  rw [if_neg hle] at m0 hps
  have hse : singleE A w n = 0 := by unfold singleE; rw [if_neg (fun c => c c2), if_neg (by omega)]
  have hd : dE A w n = 0 ∧ dS A w n = putS A v w (dblA n) := by
    rw [hps]
    by_cases h0 : n.toNat = 0
    · have hn : n = 0 := by omega
      refine ⟨by unfold dE; rw [if_pos hn]; exact c2, ?_⟩
      unfold dS wholeS
      rw [if_pos hn, if_pos c2, if_pos h0]
    · have hn : ¬ n = 0 := by omega
      have hf : frontE A w n = 0 := by unfold frontE; rw [if_neg (fun c => c c2), if_neg (by omega), if_neg (by omega)]
      refine ⟨by unfold dE; rw [if_neg hn]; exact hf, ?_⟩
      unfold dS frontS
      rw [if_neg hn, if_pos hf, if_neg h0]
  refine ⟨hd.1, hd.2, hse, h1, fun hw0 => ?_⟩
  have hpos : 0 < (spell A w).1.length := by
    rcases Nat.eq_zero_or_pos (spell A w).1.length with e | e
    · have : (spell A w).1 = [] := List.length_eq_zero_iff.1 e
      rw [this, rb_nil] at hw
      rw [← hw] at hw0; cases hw0
    · exact e
  have hoff : offS A v w (dblA n) = optS (offL A v (dblA n) (spell A w).1) := by unfold offS; rw [if_pos h1]
  have hsb : singleB A w n = isDbl (spell A w).1 n.toNat := by unfold singleB; rw [decide_eq_true hse, Bool.true_and]
  have key : offL A v (dblA n) (spell A w).1 = if isDbl (spell A w).1 n.toNat = true then some ((spell A w).1.drop (cutN (spell A w).1 n.toNat)) else none := by
    have hss : singleS A w n = singleS A w n := rfl
    generalize (spell A w).1 = l at *
    unfold offL
    rw [dblA_off]
    by_cases h0 : n.toNat = 0
    · rw [if_pos h0]
      dsimp only
      rw [dblA_mk, h0, if_neg (Nat.not_lt_zero _), if_pos rfl]
      unfold isDbl cutN
      rw [if_pos rfl]
      by_cases hev : l.length % 2 = 0
      · have e2 : 2 * (l.length / 2) = l.length := by omega
        rw [e2, List.take_length, decide_eq_true (by omega), Bool.true_and]
        by_cases hs : sq l = true
        · have hh := (sq_iff.1 hs).2
          rw [if_pos hs, if_pos]
          rw [← hh]
          refine Prod.ext ?_ rfl
          show l.take (l.length / 2) ++ l.take (l.length / 2) = l
          conv => rhs; rw [← List.take_append_drop (l.length / 2) l, ← hh]
        · rw [if_neg hs, if_neg]
          intro hc
          apply hs
          have hc : l.drop (l.length / 2) ++ l.drop (l.length / 2) = l := congrArg Prod.fst hc
          rw [← hc]; exact sq_twice _
      · rw [decide_eq_false (fun c => c.2.2 ⟨rfl, hev⟩), Bool.false_and, if_neg (show ¬ (false = true) by decide), if_neg]
        intro hc
        have hc : l.drop (l.length / 2) ++ l.drop (l.length / 2) = l := congrArg Prod.fst hc
        have := congrArg List.length hc
        rw [List.length_append] at this
        omega
    · rw [if_neg h0]
      unfold isDbl cutN
      rw [if_neg h0]
      by_cases h2 : 2 * n.toNat ≤ l.length
      · rw [if_pos h2]
        dsimp only
        have hnl : ¬ (l.drop n.toNat).length < n.toNat := by rw [List.length_drop]; omega
        rw [dblA_mk, if_neg hnl, if_neg h0, decide_eq_true ⟨h0, h2, fun c => h0 c.1⟩, Bool.true_and]
        have hl2 : (l.take (2 * n.toNat)).length = 2 * n.toNat := by rw [List.length_take]; omega
        have ht : (l.take (2 * n.toNat)).take n.toNat = l.take n.toNat := by rw [List.take_take]; congr 1; omega
        have hdr : (l.take (2 * n.toNat)).drop n.toNat = (l.drop n.toNat).take n.toNat := by rw [List.drop_take]; congr 1; omega
        have hiff : sq (l.take (2 * n.toNat)) = true ↔ (l.drop n.toNat).take n.toNat = l.take n.toNat := by
          rw [sq_iff, hl2, show 2 * n.toNat / 2 = n.toNat by omega, ht, hdr]
          exact ⟨fun h => h.2.symm, fun h => ⟨by omega, h.symm⟩⟩
        by_cases hs : sq (l.take (2 * n.toNat)) = true
        · rw [if_pos hs, if_pos]
          rw [hiff.1 hs]
          exact Prod.ext (List.take_append_drop ..) rfl
        · rw [if_neg hs, if_neg]
          intro hc
          apply hs
          have hc : (l.drop n.toNat).take n.toNat ++ l.drop n.toNat = l := congrArg Prod.fst hc
          rw [hiff]
          have h9 : ((l.drop n.toNat).take n.toNat).length = n.toNat := by rw [List.length_take, List.length_drop]; omega
          have := congrArg (List.take n.toNat) hc
          rw [List.take_append_of_le_length (by omega), List.take_of_length_le (by omega)] at this
          exact this
      · rw [if_neg h2, decide_eq_false (fun c => h2 c.2.1), Bool.false_and, if_neg (by decide)]
  rw [hoff, hsb, key]
  cases hd2 : isDbl (spell A w).1 n.toNat
  · refine ⟨⟨fun h => absurd h (by decide), fun h => ?_⟩, fun h => absurd h (by decide)⟩
    rw [if_neg (show ¬ (false = true) by decide)] at h
    cases h
  · refine ⟨⟨fun _ => by rw [if_pos rfl]; rfl, fun _ => rfl⟩, fun _ => ?_⟩
    rw [if_pos rfl]
    show [_] = _
    unfold singleS
    rw [if_pos (by rw [hsb, hd2])]

/-! ### shapes -/
theorem shp_err {A : Alpha} {v : Nat} {w f : ByteArray} (h : putE A v w (shpA f) ≠ 0) : radE A w v ≠ 0 ∨ mergeE A (radS A w v) ⟨#[]⟩ f ≠ 0 := by
  by_cases h1 : oneE A v w (shpA f) = 0
  · obtain ⟨c1, c2, c3⟩ := oneE_ok h1
    rw [shpA_aff] at c3
    obtain ⟨hA, hw, hin, h64⟩ := spell_ok c2
    obtain ⟨r1, r2⟩ := rad_root (v := v) c1 c2
    right
    have hsp : spell A (radS A w v) = (rootL A v (spell A w).1, 0) := by rw [r2]; exact spell_rb hA (rootL_in hin) (Nat.le_trans (rootL_len ..) h64)
    have hp : putE A v w (shpA f) = (putC A v (shpA f) (spell A w).1).2 := by unfold putE; rw [h1]; simp
    unfold putC at hp
    rw [shpA_mk] at hp
    by_cases hh : holeN (formL A f) = (rootL A v (spell A w).1).length
    · rw [if_pos hh, if_neg (by simp)] at hp
      have := (form_ok c3).2.2.1
      rw [if_neg (by show ¬ 256 < (fillTo _ _ _).length; rw [fillTo_len]; omega)] at hp
      exact absurd hp h
    · unfold mergeE
      rw [hsp, if_neg (by simp), if_neg]
      · decide
      · rintro ⟨_, h9⟩
        rw [form_holes hA c3] at h9
        exact hh h9
  · rcases classE_cases A v with c | c | c
    · by_cases c2 : (spell A w).2 = 0
      · right
        have h3 : ¬ formB A f = true := fun h3 => h1 (oneE_mk c c2 (by rw [shpA_aff]; exact h3))
        obtain ⟨hA, hw, hin, h64⟩ := spell_ok c2
        obtain ⟨r1, r2⟩ := rad_root (v := v) c c2
        have hsp : spell A (radS A w v) = (rootL A v (spell A w).1, 0) := by rw [r2]; exact spell_rb hA (rootL_in hin) (Nat.le_trans (rootL_len ..) h64)
        unfold mergeE
        rw [hsp, if_neg (by simp), if_neg (fun h9 => h3 h9.1.2)]; decide
      · left; unfold radE; rw [if_pos c2]; exact c2
    · left
      unfold radE
      split
      · assumption
      · rw [c]; decide
    · left; unfold radE; rw [if_pos (by rw [spell_bad c]; decide), spell_bad c]; decide
theorem nmB_nil : nmB ⟨#[]⟩ = true := by decide
theorem shp_ok {A : Alpha} {v : Nat} {w f : ByteArray} (h : putE A v w (shpA f) = 0) : radE A w v = 0 ∧ mergeE A (radS A w v) ⟨#[]⟩ f = 0 ∧ mergeS A (radS A w v) ⟨#[]⟩ f = putS A v w (shpA f) ∧ oneE A v w (shpA f) = 0 ∧ splitE A w ⟨#[]⟩ f = 0 ∧ radE A (splitS A w ⟨#[]⟩ f) v = 0 ∧
    (0 < (offS A v w (shpA f)).length → splitB A w ⟨#[]⟩ f = true ∧ offS A v w (shpA f) = [splitS A w ⟨#[]⟩ f]) ∧ (0 < (offS A v w (shpA f)).length ↔ splitB A w ⟨#[]⟩ f = true ∧ radS A (splitS A w ⟨#[]⟩ f) v = splitS A w ⟨#[]⟩ f) := by
  obtain ⟨h1, h2⟩ := putE_ok h
  obtain ⟨c1, c2, c3⟩ := oneE_ok h1
  rw [shpA_aff] at c3
  obtain ⟨hA, hw, hin, h64⟩ := spell_ok c2
  obtain ⟨r1, r2⟩ := rad_root (v := v) c1 c2
  have hsp : spell A (radS A w v) = (rootL A v (spell A w).1, 0) := by rw [r2]; exact spell_rb hA (rootL_in hin) (Nat.le_trans (rootL_len ..) h64)
  obtain ⟨m0, m1, m2⟩ := putC_ok h2
  have hps : putS A v w (shpA f) = runesBytes (mkL A v (shpA f) (spell A w).1).1 := by unfold putS; rw [if_pos h, m2]
  rw [shpA_mk] at m0 hps
  have hh : holeN (formL A f) = (rootL A v (spell A w).1).length := by
    by_cases hh : holeN (formL A f) = (rootL A v (spell A w).1).length
    · exact hh
    · rw [if_neg hh] at m0; cases m0
  rw [if_pos hh] at hps
  have hme : mergeE A (radS A w v) ⟨#[]⟩ f = 0 := by
    unfold mergeE
    rw [hsp, if_neg (by simp), if_pos ⟨⟨nmB_nil, c3⟩, by rw [form_holes hA c3]; exact hh⟩]
  have hms : mergeS A (radS A w v) ⟨#[]⟩ f = putS A v w (shpA f) := by
    unfold mergeS
    rw [if_pos hme, hsp, hps]
  have hse : splitE A w ⟨#[]⟩ f = 0 := by unfold splitE; rw [if_neg (fun c => c c2), if_pos ⟨nmB_nil, c3⟩]
  have hsb : splitB A w ⟨#[]⟩ f = fitsB (spell A w).1 (formL A f) := by unfold splitB; rw [decide_eq_true hse, Bool.true_and]
  have hoff : offS A v w (shpA f) = optS (offL A v (shpA f) (spell A w).1) := by unfold offS; rw [if_pos h1]
  -- the split root
  have hsin : fitsB (spell A w).1 (formL A f) = true → InA A (atHoles (spell A w).1 (formL A f) (formL A f).length) ∧ (atHoles (spell A w).1 (formL A f) (formL A f).length).length ≤ 64 := fun hf => by
    have hl : (spell A w).1.length = (formL A f).length := by
      by_cases e : (spell A w).1.length = (formL A f).length
      · exact e
      · rw [fits_len e] at hf; cases hf
    have hsub := atHoles_sub (spell A w).1 (formL A f) (formL A f).length (by omega)
    rw [← hl, List.take_length] at hsub
    rw [← hl]
    exact ⟨fun r hr => hin r (hsub.subset hr), Nat.le_trans hsub.length_le h64⟩
  have hspl : splitB A w ⟨#[]⟩ f = true → spell A (splitS A w ⟨#[]⟩ f) = (atHoles (spell A w).1 (formL A f) (formL A f).length, 0) := fun hb => by
    obtain ⟨i1, i2⟩ := hsin (by rw [← hsb]; exact hb)
    unfold splitS
    rw [if_pos hb]
    exact spell_rb hA i1 i2
  have hnil : spell A ⟨#[]⟩ = ([], 0) := spell_rb hA (l := []) (fun r hr => by cases hr) (by simp)
  have hspz : (spell A (splitS A w ⟨#[]⟩ f)).2 = 0 := by
    cases hb : splitB A w ⟨#[]⟩ f
    · have : splitS A w ⟨#[]⟩ f = ⟨#[]⟩ := by unfold splitS; rw [hb]; rfl
      rw [this, hnil]
    · rw [hspl hb]
  obtain ⟨q1, q2⟩ := rad_root (v := v) c1 hspz
  have key : ∀ t, offL A v (shpA f) (spell A w).1 = some t → t = atHoles (spell A w).1 (formL A f) (formL A f).length ∧ fitsB (spell A w).1 (formL A f) = true ∧ consB A v (spell A w).1 (formL A f) = true := fun t ht => by
    obtain ⟨o1, o2⟩ := offL_back ht
    rw [shpA_off] at o1
    by_cases hc : (spell A w).1.length = (formL A f).length ∧ consB A v (spell A w).1 (formL A f) = true
    · rw [if_pos hc] at o1
      cases o1
      refine ⟨rfl, ?_, hc.2⟩
      rw [shpA_mk] at o2
      by_cases hq : holeN (formL A f) = (rootL A v (atHoles (spell A w).1 (formL A f) (formL A f).length)).length
      · rw [if_pos hq] at o2
        have : fillTo (rootL A v (atHoles (spell A w).1 (formL A f) (formL A f).length)) (formL A f) (formL A f).length = (spell A w).1 := congrArg Prod.fst o2
        rw [← this]; exact fill_fits _ _
      · rw [if_neg hq] at o2; exact absurd (show (130 : Int) = 0 from congrArg Prod.snd o2) (by decide)
    · rw [if_neg hc] at o1; cases o1
  have kfw : 0 < (offS A v w (shpA f)).length → splitB A w ⟨#[]⟩ f = true ∧ offS A v w (shpA f) = [splitS A w ⟨#[]⟩ f] ∧ consB A v (spell A w).1 (formL A f) = true := fun hl => by
    rw [hoff] at hl ⊢
    cases hc : offL A v (shpA f) (spell A w).1 with
    | none => rw [hc] at hl; cases hl
    | some t =>
      obtain ⟨k1, k2, k3⟩ := key t hc
      refine ⟨by rw [hsb]; exact k2, ?_, k3⟩
      show [runesBytes t] = _
      unfold splitS
      rw [if_pos (by rw [hsb]; exact k2), k1]
  refine ⟨r1, hme, hms, h1, hse, q1, fun hl => ⟨(kfw hl).1, (kfw hl).2.1⟩, fun hl => ?_, fun hl => ?_⟩
  · obtain ⟨k1, _, k3⟩ := kfw hl
    refine ⟨k1, ?_⟩
    rw [q2, hspl k1]
    rw [consB_iff] at k3
    rw [rootL_same k3]
    unfold splitS
    rw [if_pos k1]
  · obtain ⟨k1, k2⟩ := hl
    rw [q2, hspl k1] at k2
    have hfit : fitsB (spell A w).1 (formL A f) = true := by rw [← hsb]; exact k1
    obtain ⟨i1, i2⟩ := hsin hfit
    have hroot : rootL A v (atHoles (spell A w).1 (formL A f) (formL A f).length) = atHoles (spell A w).1 (formL A f) (formL A f).length := by
      have e : splitS A w ⟨#[]⟩ f = runesBytes (atHoles (spell A w).1 (formL A f) (formL A f).length) := if_pos k1
      rw [e] at k2
      exact (rb_inj_in hA (rootL_in i1) i1).1 k2
    have hl : (spell A w).1.length = (formL A f).length := by
      by_cases e : (spell A w).1.length = (formL A f).length
      · exact e
      · rw [fits_len e] at hfit; cases hfit
    have hcons : consB A v (spell A w).1 (formL A f) = true := by rw [consB_iff, hroot]
    have hun := unfill_all hfit
    have hhn : holeN (formL A f) = (atHoles (spell A w).1 (formL A f) (formL A f).length).length := by
      have := atHoles_len (spell A w).1 (formL A f) (formL A f).length (Nat.le_refl _)
      rw [List.take_length] at this
      exact this.symm
    have hof : offL A v (shpA f) (spell A w).1 = some (atHoles (spell A w).1 (formL A f) (formL A f).length) := by
      unfold offL
      rw [shpA_off, if_pos ⟨hl, hcons⟩]
      dsimp only
      rw [shpA_mk, hroot, if_pos hhn, hun, if_pos rfl]
    rw [hoff, hof]
    exact Nat.one_pos
end Go.Proofs.YtkmfhcjdaglikaaDoor
