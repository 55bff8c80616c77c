/- Contracts: radical.Skip, cognateref03.SameInts. -/
import Derived.Test.YtnngljflnfjppaaDoorRadc
namespace Go.Proofs.YtnngljflnfjppaaDoor
open Go.RowKit Go.Cg Go.Shelf Go.Maps

def skE (A : Alpha) (r s : ByteArray) : Int := if (spell A r).2 ≠ 0 then (spell A r).2 else (spell A s).2
def skB (A : Alpha) (r s : ByteArray) : Bool := decide (skE A r s = 0) && decide ((skipTo (spell A r).1 (spell A s).1 (spell A s).1.length).length = (spell A r).1.length)
def skL (A : Alpha) (r s : ByteArray) : List Nat := if skB A r s = true then skipTo (spell A r).1 (spell A s).1 (spell A s).1.length else []
theorem skE_eq (A : Alpha) (r s : ByteArray) : skE A r s = if (spell A r).2 ≠ 0 then (spell A r).2 else (spell A s).2 := rfl
theorem skB_eq (A : Alpha) (r s : ByteArray) : skB A r s = (decide (skE A r s = 0) && decide ((skipTo (spell A r).1 (spell A s).1 (spell A s).1.length).length = (spell A r).1.length)) := rfl
theorem skL_eq (A : Alpha) (r s : ByteArray) : skL A r s = if skB A r s = true then skipTo (spell A r).1 (spell A s).1 (spell A s).1.length else [] := rfl

set_option maxRecDepth 100000 in
set_option maxHeartbeats 2000000 in
theorem skip_any (fp lp : Option Addr) (fc lc : Nat) (A : Alpha) (r s : ByteArray) (hr : r.size ≤ 140737488351232) (hs : s.size ≤ 140737488351232) (w : World) (hA : AlphaAt w fp lp A) (hT : Tabs w) :
    Calls Tryd.prog 17 #[.agg #[.slice fp A.feats.length fc, .slice lp A.lets.length lc], .string r, .string s] w fun e w' => ∃ rp rc, e = .returned (.tuple #[.slice rp (skL A r s).length rc, .bool (skB A r s), .int .i64 (skE A r s)]) ∧ w'.ownsRow w.heap.size 3 1 (.slice rp (skL A r s).length rc) (skL A r s).length (intCells (skL A r s)) ∧ Ext w w' := by
  have hx3 : Ext w (w.alloc (.cells #[.slice fp A.feats.length fc, .slice lp A.lets.length lc] 26)) := (Ext.refl _).alloc _
  obtain ⟨i0, hi, hz0, hz1, hz2⟩ := info_parts infoI
  have hcon := letters_any fp lp fc lc A r hr _ (hA.mono hx3) (hT.ext hx3)
  have hco2 := fun W hW => letters_any fp lp fc lc A s hs W (hA.mono hW) (hT.ext hW)
  have HC2 := Lib.hid hco2
  clear hco2
  have h64 := spell_len A s
  have h65 := spell_len A r
  have hfe := skE_eq A r s
  have hfb := skB_eq A r s
  have hfl := skL_eq A r s
  obtain ⟨F, hF⟩ : ∃ F, skE A r s = F := ⟨_, rfl⟩
  obtain ⟨B, hB⟩ : ∃ B, skB A r s = B := ⟨_, rfl⟩
  obtain ⟨L, hL⟩ : ∃ L, skL A r s = L := ⟨_, rfl⟩
  rw [hF] at hfe hfb
  rw [hB] at hfb hfl
  rw [hL] at hfl
  rw [hF, hB, hL]
  clear hF hB hL
  obtain ⟨l, hl⟩ : ∃ l, (spell A r).1 = l := ⟨_, rfl⟩
  obtain ⟨er, her⟩ : ∃ er, (spell A r).2 = er := ⟨_, rfl⟩
  obtain ⟨x, hl2⟩ : ∃ x, (spell A s).1 = x := ⟨_, rfl⟩
  obtain ⟨es, her2⟩ : ∃ es, (spell A s).2 = es := ⟨_, rfl⟩
  rw [hl, her] at hcon
  rw [hl2, her2] at HC2
  rw [her, her2] at hfe
  rw [hl, hl2] at hfb hfl
  rw [hl2] at h64
  rw [hl] at h65
  clear hl her hl2 her2
  by_cases h0 : er = 0
  · subst h0
    rw [if_neg (by decide : ¬ ((0 : Int) ≠ 0))] at hfe
    subst hfe
    by_cases hc0 : F = 0
    · subst hc0
      rw [decide_eq_true rfl, Bool.true_and] at hfb
      go_enter Tryd.func17, Tryd.ntmps17
      go_wp2_with (first | (go_at_call 32; refine hcon.mono ?_; rintro e w1 ⟨lrp, lrc, rfl, ho, hx1⟩; have d0 := hx1.cell0 0; have d1 := hx1.cell0 1; simp at d0 d1; clear hcon) | (go_at_call 32; refine (HC2.out _ (hx3.trans hx1)).mono ?_; rintro e w2 ⟨xrp, xrc, rfl, hox, hx2⟩))
      clear d0 d1
      have hxw := (hx3.trans hx1).trans hx2
      go_loopw [12, 35] (fun out i wr => ∃ k : Nat, k ≤ x.length ∧ i = .int .i64 k ∧ Ext w2 wr ∧ wr.ownsRow w2.heap.size 3 1 out (skipTo l x k).length (intCells (skipTo l x k))) (fun _ i _ => x.length - (intOf i).toNat)
      case atStart => exact ⟨0, Nat.zero_le _, rfl, Ext.refl _, World.ownsRow_nil _ _ _ _⟩
      case round =>
        obtain ⟨k, hk, rfl, hx, hown⟩ := hrel
        obtain ⟨rp, rc, rfl⟩ := ownsRow_slice hown
        obtain ⟨hn1, hn2⟩ := skipTo_len l x k
        by_cases hlt : k < x.length
        · obtain ⟨b, off, e0, hbw, c0⟩ := (hox.at_.mono hx).cells hlt
          subst e0
          by_cases hl2 : (skipTo l x k).length < l.length
          · obtain ⟨b2, off2, e0, hbw2, c2⟩ := (ho.at_.mono (hx2.trans hx)).cells hl2
            subst e0
            have g1 : decide (((skipTo l x k).length : Int) < l.length) = true := decide_eq_true (by omega)
            cases he : (rn l (skipTo l x k).length == rn x k)
            · have HS := Lib.hid (skipTo_no (l := l) (x := x) (k := k) (by simpa using he))
              go_wp2_with fail
              refine ⟨⟨k + 1, by omega, by go_num, hx, ?_⟩, by simp [intOf]; omega⟩
              rw [HS.out]; exact hown
            · have HS := Lib.hid (skipTo_yes (l := l) (x := x) (k := k) hl2 (by simpa using he))
              go_wp2_with (at_builtin; go_loud (refine wpList_append_own _ rfl _ _ 44 rfl w2.heap.size 3 i0 (.int .i64 0) 1 8 Tryd.underlying44 hi hz0 hz1 hz2 rfl (by decide) _ _ _ rfl (hown.alloc _) ⟨wr.heap.size, 0, none⟩ 1 1 [.int .i64 k] rfl rfl (one_cell _ _ _) (by simp [Value.oneCell']) (by unfold maxLen; omega) (by omega) (by simp; have := hx.le; omega) ?_); intro v' w4 hown4 hgrow _)
              refine ⟨⟨k + 1, by omega, by go_num, Ext.append (hx.alloc _) (hown.alloc _) hgrow (Nat.le_refl _), ?_⟩, by simp [intOf]; omega⟩
              rw [HS.out, List.length_append, intCells_append]; exact hown4
          · have g1 : decide (((skipTo l x k).length : Int) < l.length) = false := decide_eq_false (by omega)
            have HS := Lib.hid (skipTo_full hl2)
            go_wp2_with fail
            refine ⟨⟨k + 1, by omega, by go_num, hx, ?_⟩, by simp [intOf]; omega⟩
            rw [HS.out]; exact hown
        · have e : k = x.length := by omega
          subst e
          by_cases hfull : (skipTo l x x.length).length = l.length
          · rw [decide_eq_true hfull] at hfb
            subst hfb
            rw [if_pos rfl] at hfl
            subst hfl
            have g1 : decide (((skipTo l x x.length).length : Int) < l.length) = false := decide_eq_false (by omega)
            go_wp2_with fail
            go_ret3
            exact ⟨rp, rc, rfl, ownsRow_base hown hxw.le, hxw.trans hx⟩
          · rw [decide_eq_false hfull] at hfb
            subst hfb
            rw [if_neg (by decide)] at hfl
            subst hfl
            have g1 : decide (((skipTo l x x.length).length : Int) < l.length) = true := decide_eq_true (by omega)
            go_wp2_with fail
            go_ret3
            exact ⟨none, 0, rfl, World.ownsRow_nil _ _ _ _, hxw.trans hx⟩
    · rw [decide_eq_false hc0, Bool.false_and] at hfb
      subst hfb
      rw [if_neg (by decide)] at hfl
      subst hfl
      have hn : (F != 0) = true := by rw [bne_iff_ne]; exact hc0
      go_enter Tryd.func17, Tryd.ntmps17
      go_wp2_with (first | (go_at_call 32; refine hcon.mono ?_; rintro e w1 ⟨lrp, lrc, rfl, ho, hx1⟩; have d0 := hx1.cell0 0; have d1 := hx1.cell0 1; simp at d0 d1; clear hcon) | (go_at_call 32; refine (HC2.out _ (hx3.trans hx1)).mono ?_; rintro e w2 ⟨xrp, xrc, rfl, hox, hx2⟩))
      go_ret3
      exact ⟨none, 0, rfl, World.ownsRow_nil _ _ _ _, (hx3.trans hx1).trans hx2⟩
  · have hn : (er != 0) = true := by rw [bne_iff_ne]; exact h0
    rw [if_pos h0] at hfe
    subst hfe
    rw [decide_eq_false h0, Bool.false_and] at hfb
    subst hfb
    rw [if_neg (by decide)] at hfl
    subst hfl
    go_enter Tryd.func17, Tryd.ntmps17
    go_wp2_with (go_at_call 32; refine hcon.mono ?_; rintro e w1 ⟨lrp, lrc, rfl, ho, hx1⟩)
    go_ret3
    exact ⟨none, 0, rfl, World.ownsRow_nil _ _ _ _, hx3.trans hx1⟩

set_option maxHeartbeats 1000000 in
theorem SameInts_any (pa pb : Option Addr) (ca cb : Nat) (a b : List Nat) (ha : a.length ≤ 100000) (w : World) (h1 : Reads w pa a.length fun j => .int .i64 ((nth a j : Nat) : Int)) (h2 : Reads w pb b.length fun j => .int .i64 ((nth b j : Nat) : Int)) (hab : a = b) :
    Calls Tryd.prog 19 #[.slice pa a.length ca, .slice pb b.length cb] w fun e w' => e = .returned (.bool true) ∧ Ext w w' := by
  subst hab
  go_enter Tryd.func19, Tryd.ntmps19
  go_wp2_with fail
  go_loopw [5] (fun i wr => ∃ k : Nat, k ≤ a.length ∧ i = .int .i64 k ∧ Ext w wr) (fun i _ => a.length - (intOf i).toNat)
  case atStart => exact ⟨0, Nat.zero_le _, rfl, Ext.refl _⟩
  case round =>
    obtain ⟨k, hk, rfl, hx⟩ := hrel
    by_cases hlt : k < a.length
    · obtain ⟨b1, o1, rfl, hb1, k0⟩ := (h1.mono hx).cells_ hlt
      obtain ⟨b2, o2, rfl, hb2, k1⟩ := (h2.mono hx).cells_ hlt
      have c0 := k0 k hlt
      have d0 := k1 k hlt
      clear k0 k1
      go_wp2_with fail
      (refine wp_region_ext (by kernel_rfl) (by kernel_rfl) ?_; intro ι hι g hg; have q_c0 := hg.cell c0; have q_d0 := hg.cell d0; clear c0 d0; (repeat (go_big_quiet_step (fail))); refine wpQuiet_nil ?_; rintro w2 ⟨i2, rfl⟩; have hq := hg.ext i2; generalize g i2 = w2 at hq ⊢; clear q_c0 q_d0 i2 hg g hι ι)
      go_wp2_with fail
      exact ⟨⟨k + 1, by omega, by go_num, hx.trans hq⟩, by simp [intOf]; omega⟩
    · go_wp2_with fail
      go_ret
      exact ⟨rfl, hx⟩

end Go.Proofs.YtnngljflnfjppaaDoor
