/- Contracts: the reference's Class, Check, Front, Whole, Single, Peak; double.Peak. -/
import Derived.Test.YtcjdpicepjoeoaaDoorDoubl
import Derived.Test.YtcjdpicepjoeoaaDoorDoubi
namespace Go.Proofs.YtcjdpicepjoeoaaDoor
open Go.RowKit Go.Cg Go.Shelf Go.Maps

theorem asked_nil (A : Alpha) : askedN A [] = if A.Ok then 0 else 7 := by
  unfold askedN
  split
  · rw [if_pos fun i hi => absurd hi (by simp)]
  · rfl

set_option maxRecDepth 100000 in
set_option maxHeartbeats 1000000 in
theorem Class02_any (fp lp : Option Addr) (fc lc : Nat) (A : Alpha) (p m : Nat) (hp : p < 4294967296) (hm : m < 4294967296) (w : World) (hA : AlphaAt w fp lp A) :
    Calls Tryd.prog 37 #[.agg #[.slice fp A.feats.length fc, .slice lp A.lets.length lc], .int .u32 p, .int .u32 m] w fun e w' => ∃ rp rc, e = .returned (.tuple #[.slice rp (classL A p m).length rc, .int .i64 (classE A p m)]) ∧ OwnRunes 21 w.heap.size w' rp rc (classL A p m) ∧ Ext w w' := by
  have hx3 : Ext w (w.alloc (.cells #[.slice fp A.feats.length fc, .slice lp A.lets.length lc] 25)) := (Ext.refl _).alloc _
  have hfb := hA.fbig
  have hb := hA.lbig
  obtain ⟨i0, hi, hz0, hz1, hz2⟩ := info_parts infoR
  have hask := asked_any fp lp none fc lc 0 A [] _ (hA.mono hx3) (RunesAt.nil _ _)
  rw [asked_nil] at hask
  by_cases hok : A.Ok
  · rw [if_pos hok] at hask
    have HASK := Lib.hid hask
    clear hask
    cases hmay : mayB A.feats.length p m
    · have hE : classE A p m = 20 := by unfold classE; rw [if_pos hok, hmay]; rfl
      have hL : classL A p m = [] := by unfold classL; rw [hE]; rfl
      rw [hE, hL]
      go_enter Tryd.func37, Tryd.ntmps37
      go_wp2_with (first | (go_at_call 46; refine HASK.out.mono ?_; rintro e w1 ⟨rfl, hx1⟩; have hs1 := hx1.lt0; have d0 := hx1.cell0 0; have d1 := hx1.cell0 1; simp at d0 d1) | (go_at_call 47; refine (May_any _ _ _ _ _ _ hp hm hfb _).mono ?_; rintro e w2 ⟨rfl, hx2⟩))
      go_ret2
      exact ⟨none, 0, rfl, OwnRunes.nil _ _ _, (hx3.trans hx1).trans hx2⟩
    · have hE : classE A p m = 0 := by unfold classE; rw [if_pos hok, hmay]; rfl
      have hL : classL A p m = classTo A p m A.lets.length := by unfold classL; rw [hE]; rfl
      rw [hE, hL]
      go_enter Tryd.func37, Tryd.ntmps37
      go_wp2_with (first | (go_at_call 46; refine HASK.out.mono ?_; rintro e w1 ⟨rfl, hx1⟩; have hs1 := hx1.lt0; have d0 := hx1.cell0 0; have d1 := hx1.cell0 1; simp at d0 d1) | (go_at_call 47; refine (May_any _ _ _ _ _ _ hp hm hfb _).mono ?_; rintro e w2 ⟨rfl, hx2⟩))
      clear d0 d1 hs1
      go_loopw [9, 10] (fun out i wr => ∃ k : Nat, k ≤ A.lets.length ∧ i = .int .i64 k ∧ Ext (w.alloc (.cells #[.slice fp A.feats.length fc, .slice lp A.lets.length lc] 25)) wr ∧ wr.ownsRow (w.heap.size + 1) 21 1 out (classTo A p m k).length ((classTo A p m k).map (Value.int .i32))) (fun _ i _ => A.lets.length - (intOf i).toNat)
      case atStart => exact ⟨0, Nat.zero_le _, by go_num, hx1.trans hx2, World.ownsRow_nil _ _ _ _⟩
      case round =>
        obtain ⟨k, hk, rfl, hx, hown⟩ := hrel
        have d0 := hx.cell0 0; have d1 := hx.cell0 1; simp at d0 d1
        have hlw := hx.lt0
        by_cases hlt : k < A.lets.length
        · obtain ⟨b, off, rfl, hbw, c0, c1, c2⟩ := (hA.mono hx.box).cells hlt
          obtain ⟨wf1, wf2, wf3, wf4⟩ := hA.wf k hlt
          have hlen := classTo_len A p m k
          cases hlk : likeB (A.at_ k).plus (A.at_ k).minus p m
          · have hst : classTo A p m (k + 1) = classTo A p m k := by rw [classTo, hlk]; rfl
            have HS := Lib.hid hst
            clear hst
            go_wp2_with (go_at_call 48; refine (Like_any _ _ _ _ _ wf3 wf4 hp hm _).mono ?_; rintro e w3 ⟨rfl, hx4⟩)
            refine ⟨⟨k + 1, by omega, by go_num, hx.trans hx4, ?_⟩, by simp [intOf]; omega⟩
            rw [HS.out]; exact ownsRow_ext hown hx4
          · have hst : classTo A p m (k + 1) = classTo A p m k ++ [(A.at_ k).rune] := by rw [classTo, hlk]; rfl
            have HS := Lib.hid hst
            clear hst
            go_wp2_with (first | (go_at_call 48; refine (Like_any _ _ _ _ _ wf3 wf4 hp hm _).mono ?_; rintro e w3 ⟨rfl, hx4⟩; have e0 := (hx.trans hx4).cell0 0; have e1 := (hx.trans hx4).cell0 1; simp at e0 e1; obtain ⟨hbw3, g0, g1, g2⟩ := (hA.mono (hx.trans hx4).box).lcell hlt; have hl3 := (hx.trans hx4).lt0) | (at_builtin; refine wpList_append_own _ rfl _ _ 37 rfl (w.heap.size + 1) 21 i0 (.int .i32 0) 1 4 Tryd.underlying37 hi hz0 hz1 hz2 rfl (by decide) _ _ _ rfl ((ownsRow_ext hown hx4).alloc _) ⟨w3.heap.size, 0, none⟩ 1 1 [.int .i32 (A.at_ k).rune] rfl rfl (one_cell _ _ _) (by simp [Value.oneCell']) (by unfold maxLen; omega) (by omega) (by simp; have := hx.le; have := hx4.le; simp at *; omega) ?_; intro v' w4 hown4 hgrow _))
            refine ⟨⟨k + 1, by omega, by go_num, Ext.append ((hx.trans hx4).alloc _) ((ownsRow_ext hown hx4).alloc _) hgrow (Nat.le_of_eq (size_alloc _ _)), ?_⟩, by simp [intOf]; omega⟩
            rw [HS.out, List.length_append, List.map_append]; exact hown4
        · go_wp2_with fail
          go_ret2
          obtain ⟨rp, rc, rfl⟩ := ownsRow_slice hown
          have e : k = A.lets.length := by omega
          subst e
          exact ⟨rp, rc, rfl, ⟨ownsRow_base hown (by omega), by have := classTo_len A p m A.lets.length; omega, mem_rn (classTo_wf hA.wf p m _ (Nat.le_refl _))⟩, hx.box⟩
  · rw [if_neg hok] at hask
    have hE : classE A p m = 7 := by unfold classE; rw [if_neg hok]
    have hL : classL A p m = [] := by unfold classL; rw [hE]; rfl
    rw [hE, hL]
    go_enter Tryd.func37, Tryd.ntmps37
    go_wp2_with (first | (go_at_call 46; refine hask.mono ?_; rintro e w1 ⟨rfl, hx1⟩))
    go_ret2
    exact ⟨none, 0, rfl, OwnRunes.nil _ _ _, hx3.trans hx1⟩

set_option maxHeartbeats 1000000 in
theorem Check03_any (fp lp : Option Addr) (fc lc : Nat) (A : Alpha) (s : ByteArray) (hs : s.size ≤ 140737488351232) (w : World) (hA : AlphaAt w fp lp A) (hT : Tabs w) :
    Calls Tryd.prog 32 #[.agg #[.slice fp A.feats.length fc, .slice lp A.lets.length lc], .string s] w fun e w' => e = .returned (.int .i64 (spell A s).2) ∧ Ext w w' := by
  have hx3 : Ext w (w.alloc (.cells #[.slice fp A.feats.length fc, .slice lp A.lets.length lc] 25)) := (Ext.refl _).alloc _
  have hcon := Letters_any fp lp fc lc A s hs _ (hA.mono hx3) (hT.ext hx3)
  go_enter Tryd.func32, Tryd.ntmps32
  go_wp2_with (go_at_call 25; refine hcon.mono ?_; rintro e w1 ⟨lrp, lrc, rfl, ho, hx1⟩)
  go_ret
  exact ⟨rfl, hx3.trans hx1⟩

theorem dbl_len {l : List Int} {n : Nat} (h : n ≤ l.length) : (l.take n ++ l).length = n + l.length := by rw [List.length_append, List.length_take]; omega
set_option maxRecDepth 100000 in
set_option maxHeartbeats 1000000 in
theorem Front15_any (fp lp : Option Addr) (fc lc : Nat) (A : Alpha) (s : ByteArray) (n : Int) (hs : s.size ≤ 140737488351232) (hn : -9223372036854775808 ≤ n ∧ n ≤ 9223372036854775807) (w : World) (hA : AlphaAt w fp lp A) (hT : Tabs w) :
    Calls Tryd.prog 18 #[.agg #[.slice fp A.feats.length fc, .slice lp A.lets.length lc], .string s, .int .i64 n] w fun e w' => e = .returned (.tuple #[.string (frontS A s n), .int .i64 (frontE A s n)]) ∧ Ext w w' := by
  have hx3 : Ext w (w.alloc (.cells #[.slice fp A.feats.length fc, .slice lp A.lets.length lc] 25)) := (Ext.refl _).alloc _
  have hcon := Letters_any fp lp fc lc A s hs _ (hA.mono hx3) (hT.ext hx3)
  have h64 := spell_len A s
  have hfe := frontE_eq A s n
  have hfs := frontS_eq A s n
  obtain ⟨F, hF⟩ : ∃ F, frontE A s n = F := ⟨_, rfl⟩
  obtain ⟨S, hS⟩ : ∃ S, frontS A s n = S := ⟨_, rfl⟩
  rw [hF] at hfe hfs
  rw [hS] at hfs
  rw [hF, hS]
  clear hF hS
  obtain ⟨l, hl⟩ : ∃ l, (spell A s).1 = l := ⟨_, rfl⟩
  obtain ⟨er, her⟩ : ∃ er, (spell A s).2 = er := ⟨_, rfl⟩
  rw [hl, her] at hcon hfe
  rw [hl] at h64 hfs
  clear hl her
  by_cases h0 : er = 0
  · subst h0
    rw [if_neg (by decide : ¬ ((0 : Int) ≠ 0))] at hfe
    by_cases h1 : n < 0
    · rw [if_pos (.inl h1)] at hfe
      subst hfe
      rw [if_neg (by decide)] at hfs
      subst hfs
      go_enter Tryd.func18, Tryd.ntmps18
      go_wp2_with (go_at_call 25; refine hcon.mono ?_; rintro e w1 ⟨lrp, lrc, rfl, ho, hx1⟩)
      go_ret2
      exact ⟨rfl, hx3.trans hx1⟩
    · by_cases h2 : 64 < n
      · rw [if_pos (.inr h2)] at hfe
        subst hfe
        rw [if_neg (by decide)] at hfs
        subst hfs
        go_enter Tryd.func18, Tryd.ntmps18
        go_wp2_with (go_at_call 25; refine hcon.mono ?_; rintro e w1 ⟨lrp, lrc, rfl, ho, hx1⟩)
        go_ret2
        exact ⟨rfl, hx3.trans hx1⟩
      · rw [if_neg (by omega)] at hfe
        by_cases h3 : (l.length : Int) < n
        · rw [if_pos h3] at hfe
          subst hfe
          rw [if_neg (by decide)] at hfs
          subst hfs
          go_enter Tryd.func18, Tryd.ntmps18
          go_wp2_with (go_at_call 25; refine hcon.mono ?_; rintro e w1 ⟨lrp, lrc, rfl, ho, hx1⟩)
          go_ret2
          exact ⟨rfl, hx3.trans hx1⟩
        · rw [if_neg h3] at hfe
          subst hfe
          rw [if_pos rfl] at hfs
          subst hfs
          obtain ⟨m, rfl⟩ : ∃ m : Nat, n = m := ⟨n.toNat, by omega⟩
          rw [Int.toNat_natCast]
          go_enter Tryd.func18, Tryd.ntmps18
          go_wp2_with (first | (go_at_call 25; refine hcon.mono ?_; rintro e w1 ⟨lrp, lrc, rfl, ho, hx1⟩) | (go_at_call 31; refine (Doubled_any _ _ _ _ _ ho.at_ (OwnRunes_form ho).1 (OwnRunes_form ho).2 (by omega) h64).mono ?_; rintro e w2 ⟨drp, drc, rfl, hod, hx2⟩; have hcv := hod.at_.text (P := Tryd.prog) (src := 37) (dst := 9) Tryd.underlying37 Tryd.underlying21 Tryd.underlying9 drc; rw [dbl_len (by omega)] at hcv ⊢))
          go_ret2
          exact ⟨rfl, (hx3.trans hx1).trans hx2⟩
  · have hn : (er != 0) = true := by rw [bne_iff_ne]; exact h0
    rw [if_pos h0] at hfe
    subst hfe
    rw [if_neg h0] at hfs
    subst hfs
    go_enter Tryd.func18, Tryd.ntmps18
    go_wp2_with (go_at_call 25; refine hcon.mono ?_; rintro e w1 ⟨lrp, lrc, rfl, ho, hx1⟩)
    go_ret2
    exact ⟨rfl, hx3.trans hx1⟩

set_option maxHeartbeats 1000000 in
theorem Whole15_any (fp lp : Option Addr) (fc lc : Nat) (A : Alpha) (s : ByteArray) (hs : s.size ≤ 140737488351232) (w : World) (hA : AlphaAt w fp lp A) (hT : Tabs w) :
    Calls Tryd.prog 19 #[.agg #[.slice fp A.feats.length fc, .slice lp A.lets.length lc], .string s] w fun e w' => e = .returned (.tuple #[.string (wholeS A s), .int .i64 (spell A s).2]) ∧ Ext w w' := by
  have hx3 : Ext w (w.alloc (.cells #[.slice fp A.feats.length fc, .slice lp A.lets.length lc] 25)) := (Ext.refl _).alloc _
  have hcon := Check03_any fp lp fc lc A s hs _ (hA.mono hx3) (hT.ext hx3)
  have hfs := wholeS_eq A s
  by_cases h0 : (spell A s).2 = 0
  · obtain ⟨hok, hsl, hin, h64⟩ := spell_ok h0
    rw [if_pos h0, rb_append, hsl] at hfs
    have hsz := rb_size_le (spell A s).1
    rw [hsl] at hsz
    have hs1 : (s.size : Int) ≤ 8388608 := by omega
    have hs2 : s.size + s.size ≤ 9223372036854775807 := by omega
    rw [h0] at hcon
    rw [hfs, h0]
    clear hsl hin h64 hfs h0 hsz
    go_enter Tryd.func19, Tryd.ntmps19
    go_wp2_with (go_at_call 32; refine hcon.mono ?_; rintro e w1 ⟨rfl, hx1⟩)
    go_ret2
    exact ⟨rfl, hx3.trans hx1⟩
  · rw [if_neg h0] at hfs
    obtain ⟨er, her⟩ : ∃ er, (spell A s).2 = er := ⟨_, rfl⟩
    rw [her] at h0 hcon
    rw [her, hfs]
    clear hfs her
    have hn : (er != 0) = true := by rw [bne_iff_ne]; exact h0
    go_enter Tryd.func19, Tryd.ntmps19
    go_wp2_with (go_at_call 32; refine hcon.mono ?_; rintro e w1 ⟨rfl, hx1⟩)
    go_ret2
    exact ⟨rfl, hx3.trans hx1⟩

theorem isDbl_zero (l : List Int) : isDbl l 0 = (decide (0 < l.length) && sq l) := by
  have hcut : cutN l 0 = l.length / 2 := if_pos rfl
  unfold isDbl
  rw [hcut]
  by_cases h : l.length % 2 = 0
  · by_cases h0 : 0 < l.length
    · rw [decide_eq_true ⟨by omega, by omega, fun c => c.2 h⟩, decide_eq_true h0, List.take_of_length_le (by omega)]
    · rw [decide_eq_false (fun c => by omega), decide_eq_false h0, Bool.false_and, Bool.false_and]
  · rw [decide_eq_false (fun c => c.2.2 ⟨rfl, h⟩), sq_odd h, Bool.false_and, Bool.and_false]
theorem isDbl_pos {l : List Int} {m : Nat} (hm : m ≠ 0) : isDbl l m = (decide (2 * m ≤ l.length) && sq (l.take (2 * m))) := by
  have hcut : cutN l m = m := if_neg hm
  unfold isDbl
  rw [hcut]
  by_cases h : 2 * m ≤ l.length
  · rw [decide_eq_true ⟨hm, h, fun c => hm c.1⟩, decide_eq_true h]
  · rw [decide_eq_false (fun c => h c.2.1), decide_eq_false h, Bool.false_and]
    try rw [Bool.false_and]
theorem square_take {T B : Nat} {w : World} {g c : Nat} {l : List Int} {m : Nat} (h : OwnRunes T B w (some ⟨g, 0, none⟩) c l) (hok : ∀ r ∈ l, runeOk r = true) (hl : 2 * m ≤ l.length) (hm : 0 < m) :
    Calls Tryd.prog 26 #[.slice (some ⟨g, 0, none⟩) (2 * m) c] w fun e w' => e = .returned (.bool (sq (l.take (2 * m)))) ∧ Ext w w' := by
  have hc := (OwnRunes_form h).2
  have := square_any g 0 c (l.take (2 * m)) w (h.at_.take (2 * m)) (by rw [List.length_take]; omega) (by rw [List.length_take]; omega) (fun r hr => hok r (List.mem_of_mem_take hr))
  rw [List.length_take, Nat.min_eq_left hl] at this
  exact this
theorem text_take {T B : Nat} {w : World} {g c : Nat} {l : List Int} {m : Nat} (h : OwnRunes T B w (some ⟨g, 0, none⟩) c l) (hm : m ≤ l.length) :
    (convert 37 9 (.slice (some ⟨g, 0, none⟩) m c)).run Tryd.prog w = .ok (.string (runesBytes (l.take m))) w := by
  have := (h.at_.take m).text (P := Tryd.prog) (src := 37) (dst := 9) Tryd.underlying37 Tryd.underlying21 Tryd.underlying9 c
  rw [List.length_take, Nat.min_eq_left hm] at this
  exact this

set_option maxHeartbeats 2000000 in
theorem Single15_any (fp lp : Option Addr) (fc lc : Nat) (A : Alpha) (s : ByteArray) (n : Int) (hs : s.size ≤ 140737488351232) (hn : -9223372036854775808 ≤ n ∧ n ≤ 9223372036854775807) (w : World) (hA : AlphaAt w fp lp A) (hT : Tabs w) :
    Calls Tryd.prog 22 #[.agg #[.slice fp A.feats.length fc, .slice lp A.lets.length lc], .string s, .int .i64 n] w fun e w' => e = .returned (.tuple #[.string (singleS A s n), .bool (singleB A s n), .int .i64 (singleE A s n)]) ∧ Ext w w' := by
  have hx3 : Ext w (w.alloc (.cells #[.slice fp A.feats.length fc, .slice lp A.lets.length lc] 25)) := (Ext.refl _).alloc _
  have hcon := Letters_any fp lp fc lc A s hs _ (hA.mono hx3) (hT.ext hx3)
  have h64 := spell_len A s
  have hO := spell_runes (A := A) (s := s)
  have hfe := singleE_eq A s n
  have hfb := singleB_eq A s n
  have hfs := singleS_eq A s n
  obtain ⟨F, hF⟩ : ∃ F, singleE A s n = F := ⟨_, rfl⟩
  obtain ⟨B, hB⟩ : ∃ B, singleB A s n = B := ⟨_, rfl⟩
  obtain ⟨S, hS⟩ : ∃ S, singleS A s n = S := ⟨_, rfl⟩
  rw [hF] at hfe hfb
  rw [hB] at hfb hfs
  rw [hS] at hfs
  rw [hF, hB, hS]
  clear hF hB hS
  obtain ⟨l, hl⟩ : ∃ l, (spell A s).1 = l := ⟨_, rfl⟩
  obtain ⟨er, her⟩ : ∃ er, (spell A s).2 = er := ⟨_, rfl⟩
  rw [hl, her] at hcon hO
  rw [her] at hfe
  rw [hl] at h64 hfs hfb
  clear hl her
  by_cases h0 : er = 0
  · have hok := hO h0
    have HO := Lib.hid hok
    clear hok hO
    subst h0
    rw [if_neg (by decide : ¬ ((0 : Int) ≠ 0))] at hfe
    by_cases h1 : n < 0 ∨ 64 < n
    · rw [if_pos h1] at hfe
      subst hfe
      rw [decide_eq_false (by decide), Bool.false_and] at hfb
      subst hfb
      rw [if_neg (by decide)] at hfs
      subst hfs
      rcases h1 with h1 | h1
      all_goals
        go_enter Tryd.func22, Tryd.ntmps22
        go_wp2_with (go_at_call 25; refine hcon.mono ?_; rintro e w1 ⟨lrp, lrc, rfl, ho, hx1⟩)
        go_ret3
        exact ⟨rfl, hx3.trans hx1⟩
    · rw [if_neg h1] at hfe
      subst hfe
      rw [decide_eq_true rfl, Bool.true_and] at hfb
      obtain ⟨m, rfl⟩ : ∃ m : Nat, n = m := ⟨n.toNat, by omega⟩
      rw [Int.toNat_natCast] at hfb hfs
      by_cases hm : m = 0
      · subst hm
        have hcut : cutN l 0 = l.length / 2 := if_pos rfl
        rw [hcut] at hfs
        rw [isDbl_zero] at hfb
        by_cases hz : 0 < l.length
        · rw [decide_eq_true hz, Bool.true_and] at hfb
          have g1 : decide (0 < l.length) = true := decide_eq_true hz
          cases hsq : sq l
          · rw [hsq] at hfb
            subst hfb
            rw [if_neg (by decide)] at hfs
            subst hfs
            go_enter Tryd.func22, Tryd.ntmps22
            go_wp2_with (first | (go_at_call 25; refine hcon.mono ?_; rintro e w1 ⟨lrp, lrc, rfl, ho, hx1⟩; obtain ⟨g, rfl, hgc, hgb⟩ := OwnRunes_some ho hz) | (go_at_call 26; refine (square_any g 0 lrc l _ ho.at_ hz hgc HO.out).mono ?_; rintro e w2 ⟨rfl, hx2⟩; rw [hsq]))
            go_ret3
            exact ⟨rfl, (hx3.trans hx1).trans hx2⟩
          · rw [hsq] at hfb
            subst hfb
            rw [if_pos rfl, ← (sq_iff.1 hsq).2] at hfs
            subst hfs
            go_enter Tryd.func22, Tryd.ntmps22
            go_wp2_with (first | (go_at_call 25; refine hcon.mono ?_; rintro e w1 ⟨lrp, lrc, rfl, ho, hx1⟩; obtain ⟨g, rfl, hgc, hgb⟩ := OwnRunes_some ho hz) | (go_at_call 26; refine (square_any g 0 lrc l _ ho.at_ hz hgc HO.out).mono ?_; rintro e w2 ⟨rfl, hx2⟩; rw [hsq]; have hcv := text_take (m := l.length / 2) (ho.ext hx2) (by omega)))
            go_ret3
            exact ⟨rfl, (hx3.trans hx1).trans hx2⟩
        · rw [decide_eq_false hz, Bool.false_and] at hfb
          subst hfb
          rw [if_neg (by decide)] at hfs
          subst hfs
          have hl0 : l = [] := List.length_eq_zero_iff.1 (by omega)
          subst hl0
          go_enter Tryd.func22, Tryd.ntmps22
          go_wp2_with (go_at_call 25; refine hcon.mono ?_; rintro e w1 ⟨lrp, lrc, rfl, ho, hx1⟩)
          go_ret3
          exact ⟨rfl, hx3.trans hx1⟩
      · have hcut : cutN l m = m := if_neg hm
        have g0 : ((m : Int) == 0) = false := by rw [beq_eq_false_iff_ne]; omega
        have g2 : decide (0 < m) = true := decide_eq_true (by omega)
        rw [hcut] at hfs
        rw [isDbl_pos hm] at hfb
        by_cases hlen : 2 * m ≤ l.length
        · rw [decide_eq_true hlen, Bool.true_and] at hfb
          have g3 : decide ((2 : Int) * m ≤ l.length) = true := decide_eq_true (by omega)
          cases hsq : sq (l.take (2 * m))
          · rw [hsq] at hfb
            subst hfb
            rw [if_neg (by decide)] at hfs
            subst hfs
            go_enter Tryd.func22, Tryd.ntmps22
            go_wp2_with (first | (go_at_call 25; refine hcon.mono ?_; rintro e w1 ⟨lrp, lrc, rfl, ho, hx1⟩; obtain ⟨g, rfl, hgc, hgb⟩ := OwnRunes_some ho (by omega)) | (go_at_call 26; refine (square_take (m := m) ho HO.out hlen (by omega)).mono ?_; rintro e w2 ⟨rfl, hx2⟩; rw [hsq]))
            go_ret3
            exact ⟨rfl, (hx3.trans hx1).trans hx2⟩
          · rw [hsq] at hfb
            subst hfb
            rw [if_pos rfl] at hfs
            subst hfs
            go_enter Tryd.func22, Tryd.ntmps22
            go_wp2_with (first | (go_at_call 25; refine hcon.mono ?_; rintro e w1 ⟨lrp, lrc, rfl, ho, hx1⟩; obtain ⟨g, rfl, hgc, hgb⟩ := OwnRunes_some ho (by omega)) | (go_at_call 26; refine (square_take (m := m) ho HO.out hlen (by omega)).mono ?_; rintro e w2 ⟨rfl, hx2⟩; rw [hsq]; have hcv := text_drop (m := m) (ho.ext hx2)))
            go_ret3
            exact ⟨rfl, (hx3.trans hx1).trans hx2⟩
        · rw [decide_eq_false hlen, Bool.false_and] at hfb
          subst hfb
          rw [if_neg (by decide)] at hfs
          subst hfs
          have g3 : decide ((2 : Int) * m ≤ l.length) = false := decide_eq_false (by omega)
          go_enter Tryd.func22, Tryd.ntmps22
          go_wp2_with (go_at_call 25; refine hcon.mono ?_; rintro e w1 ⟨lrp, lrc, rfl, ho, hx1⟩)
          go_ret3
          exact ⟨rfl, hx3.trans hx1⟩
  · have hn : (er != 0) = true := by rw [bne_iff_ne]; exact h0
    rw [if_pos h0] at hfe
    subst hfe
    rw [decide_eq_false h0, Bool.false_and] at hfb
    subst hfb
    rw [if_neg (by decide)] at hfs
    subst hfs
    go_enter Tryd.func22, Tryd.ntmps22
    go_wp2_with (go_at_call 25; refine hcon.mono ?_; rintro e w1 ⟨lrp, lrc, rfl, ho, hx1⟩)
    go_ret3
    exact ⟨rfl, hx3.trans hx1⟩

end Go.Proofs.YtcjdpicepjoeoaaDoor
