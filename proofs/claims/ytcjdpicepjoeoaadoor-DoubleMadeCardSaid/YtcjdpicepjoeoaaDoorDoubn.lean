/- The law DoubleMade, walked: of any alphabet, word, number and class it returns true; memory only gains blocks. Conditions: the library's two tables lie in memory. -/
import Derived.Test.YtcjdpicepjoeoaaDoorDoube
import Derived.Test.YtcjdpicepjoeoaaDoorDoubm
namespace Go.Proofs.YtcjdpicepjoeoaaDoor
open Go.RowKit Go.Cg Go.Shelf Go.Maps

def peakE (A : Alpha) (s : ByteArray) (p : Nat) : Int := if (spell A s).2 ≠ 0 then (spell A s).2 else if classE A p 0 ≠ 0 then classE A p 0 else if firstN (spell A s).1 (hasL A p 0) < 0 then 150 else 0
def peakS (A : Alpha) (s : ByteArray) (p : Nat) : ByteArray := if peakE A s p = 0 then runesBytes ((spell A s).1.take ((firstN (spell A s).1 (hasL A p 0)).toNat + 1) ++ (spell A s).1) else ⟨#[]⟩
theorem peakE_eq (A : Alpha) (s : ByteArray) (p : Nat) : peakE A s p = if (spell A s).2 ≠ 0 then (spell A s).2 else if classE A p 0 ≠ 0 then classE A p 0 else if firstN (spell A s).1 (hasL A p 0) < 0 then 150 else 0 := rfl
theorem peakS_eq (A : Alpha) (s : ByteArray) (p : Nat) : peakS A s p = if peakE A s p = 0 then runesBytes ((spell A s).1.take ((firstN (spell A s).1 (hasL A p 0)).toNat + 1) ++ (spell A s).1) else ⟨#[]⟩ := rfl

theorem classTo_has (A : Alpha) (p m : Nat) : ∀ k i, i < k → likeB (A.at_ i).plus (A.at_ i).minus p m = true → (A.at_ i).rune ∈ classTo A p m k
  | 0, i, h, _ => by omega
  | k + 1, i, h, hl => by
    rw [classTo]
    by_cases e : i = k
    · subst e; rw [if_pos hl]; exact List.mem_append_right _ (List.mem_singleton.2 rfl)
    · have := classTo_has A p m k i (by omega) hl
      split
      · exact List.mem_append_left _ this
      · exact this
theorem classTo_of (A : Alpha) (p m : Nat) : ∀ k, ∀ r ∈ classTo A p m k, ∃ i, i < k ∧ (A.at_ i).rune = r ∧ likeB (A.at_ i).plus (A.at_ i).minus p m = true
  | 0, r, h => by cases h
  | k + 1, r, h => by
    rw [classTo] at h
    split at h
    · rename_i hl
      rcases List.mem_append.1 h with h | h
      · obtain ⟨i, a, b⟩ := classTo_of A p m k r h; exact ⟨i, by omega, b⟩
      · rw [List.mem_singleton.1 h]; exact ⟨k, Nat.lt_succ_self _, rfl, hl⟩
    · obtain ⟨i, a, b⟩ := classTo_of A p m k r h; exact ⟨i, by omega, b⟩
theorem class_has {A : Alpha} (hA : A.Ok) {p m : Nat} (hc : classE A p m = 0) {r : Int} (hr : 0 ≤ findLetter A r) : decide (r ∈ classL A p m) = hasL A p m r := by
  obtain ⟨i, h1, h2, h3⟩ := findLetter_bits hr
  have hL : classL A p m = classTo A p m A.lets.length := by unfold classL; rw [if_pos hc]
  have hh : hasL A p m r = likeB (A.at_ i).plus (A.at_ i).minus p m := by unfold hasL; rw [decide_eq_true hr, Bool.true_and, h1, Int.toNat_natCast]
  rw [hL, hh]
  cases hl : likeB (A.at_ i).plus (A.at_ i).minus p m
  · apply decide_eq_false
    intro hm
    obtain ⟨j, a, b, c⟩ := classTo_of A p m _ _ hm
    have hd := (hA.2.2.2.2 i h2).2.2
    have hd2 := (hA.2.2.2.2 j a).2.2
    have e : i = j := by
      rcases Nat.lt_trichotomy i j with h | h | h
      · exact absurd (h3.trans b.symm) (hd2 i h)
      · exact h
      · exact absurd (b.trans h3.symm) (hd j h)
    subst e
    rw [c] at hl; cases hl
  · apply decide_eq_true
    rw [← h3]; exact classTo_has A p m _ i h2 hl

set_option maxRecDepth 100000 in
set_option maxHeartbeats 2000000 in
theorem Peak_any (fp lp : Option Addr) (fc lc : Nat) (A : Alpha) (s : ByteArray) (p : Nat) (hs : s.size ≤ 140737488351232) (hp : p < 4294967296) (w : World) (hA : AlphaAt w fp lp A) (hT : Tabs w) :
    Calls Tryd.prog 20 #[.agg #[.slice fp A.feats.length fc, .slice lp A.lets.length lc], .string s, .int .u32 p] w fun e w' => e = .returned (.tuple #[.string (peakS A s p), .int .i64 (peakE A s p)]) ∧ Ext w w' := by
  have hx3 : Ext w (w.alloc (.cells #[.slice fp A.feats.length fc, .slice lp A.lets.length lc] 25)) := (Ext.refl _).alloc _
  have eg : ∀ args W, (callFunc 35 args).run Tryd.prog W = .ok (.enter 35 args) W := @enters_of Tryd.prog 35 _ _ Tryd.func35 (by kernel_rfl) rfl
  have hcon := letters_any fp lp fc lc A s hs _ (hA.mono hx3) (hT.ext hx3)
  have h64 := spell_len A s
  have hfe := peakE_eq A s p
  have hfs := peakS_eq A s p
  have hcls := fun (h : (spell A s).2 = 0) (hc : classE A p 0 = 0) => firstN_congr (l := (spell A s).1) (q := fun r => decide (r ∈ classL A p 0)) (q' := hasL A p 0) (fun r hr => class_has (spell_ok h).1 hc ((spell_ok h).2.2.1 r hr))
  have hrg := firstN_range (spell A s).1 (hasL A p 0)
  obtain ⟨F, hF⟩ : ∃ F, peakE A s p = F := ⟨_, rfl⟩
  obtain ⟨S, hS⟩ : ∃ S, peakS A s p = S := ⟨_, rfl⟩
  rw [hF] at hfe hfs
  rw [hS] at hfs
  rw [hF, hS]
  clear hF hS
  obtain ⟨l, hl⟩ : ∃ l, (spell A s).1 = l := ⟨_, rfl⟩
  obtain ⟨er, her⟩ : ∃ er, (spell A s).2 = er := ⟨_, rfl⟩
  rw [hl, her] at hcon hfe hcls
  rw [hl] at h64 hfs hrg
  clear hl her
  have hcl := fun W hW => class_any fp lp fc lc A p 0 hp (by omega) W (hA.mono hW)
  obtain ⟨cl, hcl2⟩ : ∃ cl, classL A p 0 = cl := ⟨_, rfl⟩
  obtain ⟨ce, hce⟩ : ∃ ce, classE A p 0 = ce := ⟨_, rfl⟩
  rw [hcl2, hce] at hcl hcls
  rw [hce] at hfe
  have HCL := Lib.hid hcl
  clear hcl hcl2 hce
  by_cases h0 : er = 0
  · subst h0
    rw [if_neg (by decide : ¬ ((0 : Int) ≠ 0))] at hfe
    by_cases hc0 : ce = 0
    · subst hc0
      rw [if_neg (by decide : ¬ ((0 : Int) ≠ 0))] at hfe
      have hq := hcls rfl rfl
      obtain ⟨k, hk⟩ : ∃ k, firstN l (hasL A p 0) = k := ⟨_, rfl⟩
      rw [hk] at hq hfe hfs hrg
      have HQ := Lib.hid hq
      clear hq hcls hk
      rcases hrg with rfl | ⟨hk0, hk1⟩
      · rw [if_pos (by decide)] at hfe
        subst hfe
        rw [if_neg (by decide)] at hfs
        subst hfs
        go_enter Tryd.func20, Tryd.ntmps20
        go_wp2_with (first | (go_at_call 13; refine hcon.mono ?_; rintro e w1 ⟨lrp, lrc, rfl, ho, hx1⟩; have d0 := hx1.cell0 0; have d1 := hx1.cell0 1; simp at d0 d1) | (go_at_call 33; refine (HCL.out _ (hx3.trans hx1)).mono ?_; rintro e w2 ⟨crp, crc, rfl, hoc, hx2⟩) | (go_at_call 34; go_loud (refine (IndexFuncR_any lrp lrc l 35 #[.pointer (some ⟨w2.heap.size, 0, none⟩)] (fun r => decide (r ∈ cl)) _ (ho.at_.mono (hx2.alloc _)) eg (fun i hi W hW => peak1_any w2.heap.size crp crc cl (rn l i) W (by have := hW.cell0 0; simpa using this) (hoc.at_.mono (hW.box)))).mono ?_); rw [HQ.out]; rintro e w3 ⟨rfl, hx4⟩))
        go_ret2
        exact ⟨rfl, ((hx3.trans hx1).trans (hx2.alloc _)).trans hx4⟩
      · obtain ⟨j, rfl⟩ : ∃ j : Nat, k = j := ⟨k.toNat, by omega⟩
        rw [if_neg (by omega)] at hfe
        subst hfe
        rw [if_pos rfl, Int.toNat_natCast] at hfs
        subst hfs
        go_enter Tryd.func20, Tryd.ntmps20
        go_wp2_with (first | (go_at_call 13; refine hcon.mono ?_; rintro e w1 ⟨lrp, lrc, rfl, ho, hx1⟩; have d0 := hx1.cell0 0; have d1 := hx1.cell0 1; simp at d0 d1) | (go_at_call 33; refine (HCL.out _ (hx3.trans hx1)).mono ?_; rintro e w2 ⟨crp, crc, rfl, hoc, hx2⟩) | (go_at_call 34; go_loud (refine (IndexFuncR_any lrp lrc l 35 #[.pointer (some ⟨w2.heap.size, 0, none⟩)] (fun r => decide (r ∈ cl)) _ (ho.at_.mono (hx2.alloc _)) eg (fun i hi W hW => peak1_any w2.heap.size crp crc cl (rn l i) W (by have := hW.cell0 0; simpa using this) (hoc.at_.mono (hW.box)))).mono ?_); rw [HQ.out]; rintro e w3 ⟨rfl, hx4⟩; have hput := put_any lrp lrc l (j + 1) w3 (ho.at_.mono ((hx2.alloc _).trans hx4)) (OwnRunes_form ho).1 (OwnRunes_form ho).2 (by omega) h64; rw [show ((j + 1 : Nat) : Int) = (j : Int) + 1 by omega] at hput) | (go_at_call 30; go_loud (refine hput.mono ?_); rintro e w4 ⟨rfl, hx5⟩))
        go_ret2
        exact ⟨rfl, (((hx3.trans hx1).trans (hx2.alloc _)).trans hx4).trans hx5⟩
    · rw [if_pos hc0] at hfe
      subst hfe
      rw [if_neg hc0] at hfs
      subst hfs
      have hn : (F != 0) = true := by rw [bne_iff_ne]; exact hc0
      clear hcls
      go_enter Tryd.func20, Tryd.ntmps20
      go_wp2_with (first | (go_at_call 13; refine hcon.mono ?_; rintro e w1 ⟨lrp, lrc, rfl, ho, hx1⟩; have d0 := hx1.cell0 0; have d1 := hx1.cell0 1; simp at d0 d1) | (go_at_call 33; refine (HCL.out _ (hx3.trans hx1)).mono ?_; rintro e w2 ⟨crp, crc, rfl, hoc, hx2⟩))
      go_ret2
      exact ⟨rfl, (hx3.trans hx1).trans (hx2.alloc _)⟩
  · have hn : (er != 0) = true := by rw [bne_iff_ne]; exact h0
    rw [if_pos h0] at hfe
    subst hfe
    rw [if_neg h0] at hfs
    subst hfs
    clear hcls
    go_enter Tryd.func20, Tryd.ntmps20
    go_wp2_with (go_at_call 13; refine hcon.mono ?_; rintro e w1 ⟨lrp, lrc, rfl, ho, hx1⟩)
    go_ret2
    exact ⟨rfl, hx3.trans hx1⟩

set_option maxRecDepth 100000 in
set_option maxHeartbeats 2000000 in
theorem Peak15_any (fp lp : Option Addr) (fc lc : Nat) (A : Alpha) (s : ByteArray) (p : Nat) (hs : s.size ≤ 140737488351232) (hp : p < 4294967296) (w : World) (hA : AlphaAt w fp lp A) (hT : Tabs w) :
    Calls Tryd.prog 21 #[.agg #[.slice fp A.feats.length fc, .slice lp A.lets.length lc], .string s, .int .u32 p] w fun e w' => e = .returned (.tuple #[.string (peakS A s p), .int .i64 (peakE A s p)]) ∧ Ext w w' := by
  have hx3 : Ext w (w.alloc (.cells #[.slice fp A.feats.length fc, .slice lp A.lets.length lc] 25)) := (Ext.refl _).alloc _
  have hcon := Letters_any fp lp fc lc A s hs _ (hA.mono hx3) (hT.ext hx3)
  have h64 := spell_len A s
  have hfe := peakE_eq A s p
  have hfs := peakS_eq A s p
  obtain ⟨F, hF⟩ : ∃ F, peakE A s p = F := ⟨_, rfl⟩
  obtain ⟨S, hS⟩ : ∃ S, peakS A s p = S := ⟨_, rfl⟩
  rw [hF] at hfe hfs
  rw [hS] at hfs
  rw [hF, hS]
  clear hF hS
  obtain ⟨l, hl⟩ : ∃ l, (spell A s).1 = l := ⟨_, rfl⟩
  obtain ⟨er, her⟩ : ∃ er, (spell A s).2 = er := ⟨_, rfl⟩
  rw [hl, her] at hcon hfe
  rw [hl] at h64 hfs
  clear hl her
  have hcl := fun W hW => Class02_any fp lp fc lc A p 0 hp (by omega) W (hA.mono hW)
  obtain ⟨cl, hcl2⟩ : ∃ cl, classL A p 0 = cl := ⟨_, rfl⟩
  obtain ⟨ce, hce⟩ : ∃ ce, classE A p 0 = ce := ⟨_, rfl⟩
  rw [hcl2, hce] at hcl
  rw [hce] at hfe
  have HCL := Lib.hid hcl
  clear hcl hcl2 hce
  have hHas := fun r W hW => Has03_any fp lp fc lc A r p hp W (hA.mono hW)
  have HHAS := Lib.hid hHas
  clear hHas
  by_cases h0 : er = 0
  · subst h0
    rw [if_neg (by decide : ¬ ((0 : Int) ≠ 0))] at hfe
    by_cases hc0 : ce = 0
    · subst hc0
      rw [if_neg (by decide : ¬ ((0 : Int) ≠ 0))] at hfe
      have HFE := Lib.hid hfe
      have HFS := Lib.hid hfs
      clear hfe hfs
      go_enter Tryd.func21, Tryd.ntmps21
      go_wp2_with (first | (go_at_call 25; refine hcon.mono ?_; rintro e w1 ⟨lrp, lrc, rfl, ho, hx1⟩; have d0 := hx1.cell0 0; have d1 := hx1.cell0 1; simp at d0 d1) | (go_at_call 37; refine (HCL.out _ (hx3.trans hx1)).mono ?_; rintro e w2 ⟨crp, crc, rfl, hoc, hx2⟩))
      have hy2 := hx1.trans hx2
      have ho2 := ho.ext hx2
      clear d0 d1
      go_loopw [10] (fun i wr => ∃ k : Nat, k ≤ l.length ∧ i = .int .i64 k ∧ Ext w2 wr ∧ Hid (∀ j, j < k → hasL A p 0 (rn l j) = false)) (fun i _ => l.length - (intOf i).toNat)
      case atStart => exact ⟨0, Nat.zero_le _, by go_num, Ext.refl _, fun j hj => by omega⟩
      case round =>
        obtain ⟨k, hk, rfl, hx, HN⟩ := hrel
        have hyr := hy2.trans hx
        have d0 := hyr.cell0 0; have d1 := hyr.cell0 1; simp at d0 d1
        by_cases hlt : k < l.length
        · obtain ⟨b, off, rfl, hbw, c0⟩ := (ho2.at_.mono hx).cells hlt
          have hcon2 := fun (W : World) (hW : Ext wr W) => HHAS.out (rn l k) W (hyr.box.trans hW)
          cases hh : hasL A p 0 (rn l k)
          · rw [hh] at hcon2
            have HC2 := Lib.hid hcon2
            clear hcon2
            go_wp2_with fail
            (refine wp_region_ext (by kernel_rfl) (by kernel_rfl) ?_; intro ι hι g hg; have q_d0 := hg.cell d0; have q_d1 := hg.cell d1; have q_c0 := hg.cell c0; clear d0 d1 c0; (repeat (go_big_quiet_step ((go_at_call 38; exact hg.call (HC2.out _ (hg.ext _)))))); refine wpQuiet_nil ?_; rintro w3 ⟨i2, rfl⟩; have hq := hg.ext i2; generalize g i2 = w3 at hq ⊢; clear q_d0 q_d1 q_c0 i2 hg g hι ι)
            go_wp2_with fail
            refine ⟨⟨k + 1, by omega, by go_num, hx.trans hq, upto_succ HN.out hh⟩, by simp [intOf]; omega⟩
          · rw [hh] at hcon2
            have HC2 := Lib.hid hcon2
            clear hcon2
            have hst := firstN_at hlt HN.out hh
            have HST := Lib.hid hst
            clear hst
            go_wp2_with fail
            (refine wp_region_ext (by kernel_rfl) (by kernel_rfl) ?_; intro ι hι g hg; have q_d0 := hg.cell d0; have q_d1 := hg.cell d1; have q_c0 := hg.cell c0; clear d0 d1 c0; (repeat (go_big_quiet_step ((go_at_call 38; exact hg.call (HC2.out _ (hg.ext _)))))); refine wpQuiet_nil ?_; rintro w3 ⟨i2, rfl⟩; have hq := hg.ext i2; generalize g i2 = w3 at hq ⊢; clear q_d0 q_d1 q_c0 i2 hg g hι ι)
            have hdb := Doubled_any _ lrc l (k + 1) w3 ((ho2.at_.mono hx).mono hq) (OwnRunes_form ho2).1 (OwnRunes_form ho2).2 (by omega) h64
            rw [show ((k + 1 : Nat) : Int) = (k : Int) + 1 by omega] at hdb
            go_wp2_with (go_at_call 31; go_loud (refine hdb.mono ?_); rintro e w4 ⟨drp, drc, rfl, hod, hx5⟩; have hcv := hod.at_.text (P := Tryd.prog) (src := 37) (dst := 9) Tryd.underlying37 Tryd.underlying21 Tryd.underlying9 drc; rw [dbl_len (by omega)] at hcv ⊢)
            go_ret2
            have e1 := HFE.out
            rw [HST.out, if_neg (by omega)] at e1
            have e2 := HFS.out
            rw [if_pos e1, HST.out, Int.toNat_natCast] at e2
            exact ⟨by rw [e1, e2]; first | done | rfl, (hyr.box.trans hq).trans hx5⟩
        · have hst := firstN_none (l := l) (q := hasL A p 0) fun j hj => HN.out j (by omega)
          have HST := Lib.hid hst
          clear hst
          go_wp2_with fail
          go_ret2
          have e1 := HFE.out
          rw [HST.out, if_pos (by decide)] at e1
          have e2 := HFS.out
          rw [e1, if_neg (by decide)] at e2
          exact ⟨by rw [e1, e2]; first | done | rfl, hyr.box⟩
    · rw [if_pos hc0] at hfe
      subst hfe
      rw [if_neg hc0] at hfs
      subst hfs
      have hn : (F != 0) = true := by rw [bne_iff_ne]; exact hc0
      go_enter Tryd.func21, Tryd.ntmps21
      go_wp2_with (first | (go_at_call 25; refine hcon.mono ?_; rintro e w1 ⟨lrp, lrc, rfl, ho, hx1⟩; have d0 := hx1.cell0 0; have d1 := hx1.cell0 1; simp at d0 d1) | (go_at_call 37; refine (HCL.out _ (hx3.trans hx1)).mono ?_; rintro e w2 ⟨crp, crc, rfl, hoc, hx2⟩))
      go_ret2
      exact ⟨rfl, (hx3.trans hx1).trans hx2⟩
  · have hn : (er != 0) = true := by rw [bne_iff_ne]; exact h0
    rw [if_pos h0] at hfe
    subst hfe
    rw [if_neg h0] at hfs
    subst hfs
    go_enter Tryd.func21, Tryd.ntmps21
    go_wp2_with (go_at_call 25; refine hcon.mono ?_; rintro e w1 ⟨lrp, lrc, rfl, ho, hx1⟩)
    go_ret2
    exact ⟨rfl, hx3.trans hx1⟩

set_option maxRecDepth 100000 in
set_option maxHeartbeats 2000000 in
theorem doubleMade_any (fp lp : Option Addr) (fc lc : Nat) (A : Alpha) (s : ByteArray) (hs : s.size ≤ 140737488351232) (n : Int) (hn : -9223372036854775808 ≤ n ∧ n ≤ 9223372036854775807) (p : Int) (hp : 0 ≤ p ∧ p ≤ 4294967295) (w : World) (hA : AlphaAt w fp lp A) (hT : Tabs w) :
    Calls Tryd.prog 6 #[.agg #[.slice fp A.feats.length fc, .slice lp A.lets.length lc], .string s, .int .i64 n, .int .u32 p] w fun e w' => e = .returned (.bool true) ∧ Ext w w' := by
  obtain ⟨m, rfl⟩ : ∃ m : Nat, p = m := ⟨p.toNat, by omega⟩
  have hx0 : Ext w (w.alloc (.cells #[.slice fp A.feats.length fc, .slice lp A.lets.length lc] 25)) := (Ext.refl _).alloc _
  have hF := fun W hW => front_any fp lp fc lc A s n hs hn W (hA.mono hW) (hT.ext hW)
  have hF' := fun W hW => Front15_any fp lp fc lc A s n hs hn W (hA.mono hW) (hT.ext hW)
  have hW := fun W hW => whole_any fp lp fc lc A s hs W (hA.mono hW) (hT.ext hW)
  have hW' := fun W hW => Whole15_any fp lp fc lc A s hs W (hA.mono hW) (hT.ext hW)
  have hP := fun W hW => Peak_any fp lp fc lc A s m hs (by omega) W (hA.mono hW) (hT.ext hW)
  have hP' := fun W hW => Peak15_any fp lp fc lc A s m hs (by omega) W (hA.mono hW) (hT.ext hW)
  have hS := fun W hW => single_any fp lp fc lc A s n hs hn W (hA.mono hW) (hT.ext hW)
  have hS' := fun W hW => Single15_any fp lp fc lc A s n hs hn W (hA.mono hW) (hT.ext hW)
  obtain ⟨v1, e1⟩ : ∃ v, frontS A s n = v := ⟨_, rfl⟩
  obtain ⟨v2, e2⟩ : ∃ v, frontE A s n = v := ⟨_, rfl⟩
  obtain ⟨v3, e3⟩ : ∃ v, wholeS A s = v := ⟨_, rfl⟩
  obtain ⟨v4, e4⟩ : ∃ v, (spell A s).2 = v := ⟨_, rfl⟩
  obtain ⟨v5, e5⟩ : ∃ v, peakS A s m = v := ⟨_, rfl⟩
  obtain ⟨v6, e6⟩ : ∃ v, peakE A s m = v := ⟨_, rfl⟩
  obtain ⟨v7, e7⟩ : ∃ v, singleS A s n = v := ⟨_, rfl⟩
  obtain ⟨v8, e8⟩ : ∃ v, singleB A s n = v := ⟨_, rfl⟩
  obtain ⟨v9, e9⟩ : ∃ v, singleE A s n = v := ⟨_, rfl⟩
  rw [e1, e2] at hF hF'
  rw [e3, e4] at hW hW'
  rw [e5, e6] at hP hP'
  rw [e7, e8, e9] at hS hS'
  clear e1 e2 e3 e4 e5 e6 e7 e8 e9
  have HF := Lib.hid hF
  have HF' := Lib.hid hF'
  have HW := Lib.hid hW
  have HW' := Lib.hid hW'
  have HP := Lib.hid hP
  have HP' := Lib.hid hP'
  have HS := Lib.hid hS
  have HS' := Lib.hid hS'
  clear hF hF' hW hW' hP hP' hS hS'
  go_enter Tryd.func6, Tryd.ntmps6
  go_wp2_with (first | (go_at_call 7; refine (awake_any _ (hT.ext hx0)).mono ?_; rintro e w1 ⟨rfl, hz0⟩; have d0 := hz0.cell0 0; have d1 := hz0.cell0 1; simp at d0 d1) | (go_at_call 14; refine (HF.out _ hz0.box).mono ?_; rintro e u0 ⟨rfl, hq0⟩; have hz1 := hz0.trans hq0; have f0 := hz1.cell0 0; have g0 := hz1.cell0 1; simp at f0 g0) | (go_at_call 18; refine (HF'.out _ hz1.box).mono ?_; rintro e u1 ⟨rfl, hq1⟩; have hz2 := hz1.trans hq1; have f1 := hz2.cell0 0; have g1 := hz2.cell0 1; simp at f1 g1) | (go_at_call 16; refine (HW.out _ hz2.box).mono ?_; rintro e u2 ⟨rfl, hq2⟩; have hz3 := hz2.trans hq2; have f2 := hz3.cell0 0; have g2 := hz3.cell0 1; simp at f2 g2) | (go_at_call 19; refine (HW'.out _ hz3.box).mono ?_; rintro e u3 ⟨rfl, hq3⟩; have hz4 := hz3.trans hq3; have f3 := hz4.cell0 0; have g3 := hz4.cell0 1; simp at f3 g3) | (go_at_call 20; refine (HP.out _ hz4.box).mono ?_; rintro e u4 ⟨rfl, hq4⟩; have hz5 := hz4.trans hq4; have f4 := hz5.cell0 0; have g4 := hz5.cell0 1; simp at f4 g4) | (go_at_call 21; refine (HP'.out _ hz5.box).mono ?_; rintro e u5 ⟨rfl, hq5⟩; have hz6 := hz5.trans hq5; have f5 := hz6.cell0 0; have g5 := hz6.cell0 1; simp at f5 g5) | (go_at_call 15; refine (HS.out _ hz6.box).mono ?_; rintro e u6 ⟨rfl, hq6⟩; have hz7 := hz6.trans hq6; have f6 := hz7.cell0 0; have g6 := hz7.cell0 1; simp at f6 g6) | (go_at_call 22; refine (HS'.out _ hz7.box).mono ?_; rintro e u7 ⟨rfl, hq7⟩; have hz8 := hz7.trans hq7; have f7 := hz8.cell0 0; have g7 := hz8.cell0 1; simp at f7 g7))
  go_ret
  exact ⟨rfl, hz8.box⟩

end Go.Proofs.YtcjdpicepjoeoaaDoor
