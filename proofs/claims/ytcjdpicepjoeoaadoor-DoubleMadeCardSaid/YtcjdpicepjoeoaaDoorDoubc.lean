/- Contracts: double.Period and its reference, SameSpans. -/
import Derived.Test.YtcjdpicepjoeoaaDoorDoubb
namespace Go.Proofs.YtcjdpicepjoeoaaDoor
open Go.RowKit Go.Cg Go.Shelf Go.Maps

set_option maxRecDepth 100000 in
set_option maxHeartbeats 2000000 in
theorem period_any (fp lp : Option Addr) (fc lc : Nat) (A : Alpha) (s : ByteArray) (hs : s.size ≤ 140737488351232) (w : World) (hA : AlphaAt w fp lp A) (hT : Tabs w) :
    Calls Tryd.prog 10 #[.agg #[.slice fp A.feats.length fc, .slice lp A.lets.length lc], .string s] w fun e w' => e = .returned (.tuple #[.int .i64 (periodL (spell A s).1 : Nat), .int .i64 (spell A s).2]) ∧ Ext w w' := by
  have hx3 : Ext w (w.alloc (.cells #[.slice fp A.feats.length fc, .slice lp A.lets.length lc] 25)) := (Ext.refl _).alloc _
  have hcon := letters_any fp lp fc lc A s hs _ (hA.mono hx3) (hT.ext hx3)
  have h64 := spell_len A s
  have hE := spell_err (A := A) (s := s)
  obtain ⟨l, hl⟩ : ∃ l, (spell A s).1 = l := ⟨_, rfl⟩
  obtain ⟨er, her⟩ : ∃ er, (spell A s).2 = er := ⟨_, rfl⟩
  rw [hl, her] at hcon hE
  rw [hl] at h64
  rw [hl, her]
  clear hl her
  by_cases h0 : er = 0
  · subst h0
    clear hE
    go_enter Tryd.func10, Tryd.ntmps10
    go_wp2_with (go_at_call 13; refine hcon.mono ?_; rintro e w1 ⟨lrp, lrc, rfl, ho, hx1⟩)
    go_loopw [20] (fun i wr => ∃ k : Nat, k ≤ l.length ∧ i = .int .i64 k ∧ Ext w1 wr ∧ Hid (∀ j, 1 ≤ j → j < k → perB l j = false)) (fun i _ => l.length - (intOf i).toNat)
    case atStart => exact ⟨0, Nat.zero_le _, rfl, Ext.refl _, fun j h1 h2 => by omega⟩
    case round =>
      obtain ⟨k, hk, rfl, hx, HN⟩ := hrel
      by_cases hlt : k < l.length
      · obtain ⟨g, rfl, hgc, hgb⟩ := OwnRunes_some ho (by omega)
        have hcon2 : ∀ W, Ext w1 W → Calls Tryd.prog 27 #[.slice (some ⟨g, k, none⟩) (l.length - k) (lrc - k), .slice (some ⟨g, 0, none⟩) (l.length - k) lrc] W fun e w' => e = .returned (.bool (perB l k)) ∧ Ext W w' := by
          intro W hW
          have h1 := (ho.at_.mono hW).cut k l.length (Nat.le_refl _)
          have h2 := (ho.at_.mono hW).take (l.length - k)
          have := Equal_any _ _ (lrc - k) lrc _ _ W h1 h2
          rw [List.length_take, Nat.min_eq_left (by omega), cutL_length _ _ _ (Nat.le_refl _), Nat.zero_add] at this
          have e : cutL l k l.length = l.drop k := by unfold cutL; exact List.take_of_length_le (by rw [List.length_drop]; omega)
          rw [e] at this
          exact this
        have HC := Lib.hid hcon2
        clear hcon2
        by_cases hz : k = 0
        · subst hz
          go_wp2_with fail
          (refine wp_region_ext (by kernel_rfl) (by kernel_rfl) ?_; intro ι hι g hg; (repeat (go_big_quiet_step (fail))); refine wpQuiet_nil ?_; rintro w2 ⟨i2, rfl⟩; have hq := hg.ext i2; generalize g i2 = w2 at hq ⊢; clear  i2 hg g hι ι)
          go_wp2_with fail
          refine ⟨⟨1, by omega, by go_num, hx.trans hq, fun j h1 h2 => by omega⟩, by simp [intOf]; omega⟩
        · have hm : decide (0 < k) = true := by simp; omega
          cases hp : perB l k
          · rw [hp] at HC
            go_wp2_with fail
            have HC2 := Lib.hid fun W hW => HC.out W (hx.trans hW)
            (refine wp_region_ext (by kernel_rfl) (by kernel_rfl) ?_; intro ι hι g hg; (repeat (go_big_quiet_step ((go_at_call 27; exact hg.call (HC2.out _ (hg.ext _)))))); refine wpQuiet_nil ?_; rintro w2 ⟨i2, rfl⟩; have hq := hg.ext i2; generalize g i2 = w2 at hq ⊢; clear  i2 hg g hι ι)
            go_wp2_with fail
            refine ⟨⟨k + 1, by omega, by go_num, hx.trans hq, ?_⟩, by simp [intOf]; omega⟩
            intro j h1 h2
            by_cases e : j = k
            · rw [e]; exact hp
            · exact HN.out j h1 (by omega)
          · rw [hp] at HC
            have hst := periodL_at (l := l) (q := k) (by omega) hlt hp HN.out
            have HS := Lib.hid hst
            clear hst
            go_wp2_with fail
            have HC2 := Lib.hid fun W hW => HC.out W (hx.trans hW)
            (refine wp_region_ext (by kernel_rfl) (by kernel_rfl) ?_; intro ι hι g hg; (repeat (go_big_quiet_step ((go_at_call 27; exact hg.call (HC2.out _ (hg.ext _)))))); refine wpQuiet_nil ?_; rintro w2 ⟨i2, rfl⟩; have hq := hg.ext i2; generalize g i2 = w2 at hq ⊢; clear  i2 hg g hι ι)
            go_wp2_with fail
            go_ret2
            exact ⟨by rw [HS.out]; first | done | rfl, ((hx3.trans hx1).trans hx).trans hq⟩
      · have hst := periodL_none (l := l) fun j h1 h2 => HN.out j h1 (by omega)
        have HS := Lib.hid hst
        clear hst
        go_wp2_with fail
        go_ret2
        exact ⟨by rw [HS.out]; first | done | rfl, (hx3.trans hx1).trans hx⟩
  · have hn : (er != 0) = true := by rw [bne_iff_ne]; exact h0
    have hl := hE h0
    subst hl
    go_enter Tryd.func10, Tryd.ntmps10
    go_wp2_with (go_at_call 13; refine hcon.mono ?_; rintro e w1 ⟨lrp, lrc, rfl, ho, hx1⟩)
    go_ret2
    exact ⟨rfl, hx3.trans hx1⟩

theorem perTo_zero (l : List Int) (p : Nat) : ∀ i, p ≤ i → i < p → rn l i = rn l (i - p) := fun i h1 h2 => by omega
/-- does a word go on by p, up to place q? -/
def perTo (l : List Int) (p q : Nat) : Bool := (List.range q).all fun i => decide (i < p) || decide (rn l i = rn l (i - p))
theorem perTo_iff {l : List Int} {p q : Nat} : perTo l p q = true ↔ ∀ i, p ≤ i → i < q → rn l i = rn l (i - p) := by
  unfold perTo
  rw [List.all_eq_true]
  constructor
  · intro h i h1 h2
    have := h i (List.mem_range.2 h2)
    simp only [Bool.or_eq_true, decide_eq_true_eq] at this
    rcases this with h | h
    · omega
    · exact h
  · intro h i hi
    have := List.mem_range.1 hi
    simp only [Bool.or_eq_true, decide_eq_true_eq]
    by_cases e : i < p
    · exact .inl e
    · exact .inr (h i (by omega) this)
theorem perTo_start (l : List Int) (p : Nat) : perTo l p p = true := perTo_iff.2 fun i h1 h2 => by omega
theorem perTo_no {l : List Int} {p q : Nat} (h : perTo l p q = false) : perTo l p (q + 1) = false := by
  rw [← Bool.not_eq_true, perTo_iff] at h ⊢
  exact fun c => h fun i h1 h2 => c i h1 (by omega)
theorem perTo_step {l : List Int} {p q : Nat} (hp : p ≤ q) (h : perTo l p q = true) : perTo l p (q + 1) = (rn l q == rn l (q - p)) := by
  rw [perTo_iff] at h
  cases he : (rn l q == rn l (q - p))
  · rw [← Bool.not_eq_true, perTo_iff]
    intro c
    have := c q hp (by omega)
    simp [this] at he
  · rw [perTo_iff]
    intro i h1 h2
    by_cases e : i = q
    · subst e; simpa using he
    · exact h i h1 (by omega)
theorem perTo_end {l : List Int} {p : Nat} (hp : p ≤ l.length) : perTo l p l.length = perB l p := by
  cases h : perB l p
  · rw [← Bool.not_eq_true, perTo_iff, ← perB_iff hp, h]; decide
  · rw [perTo_iff, ← perB_iff hp]; exact h

set_option maxRecDepth 100000 in
set_option maxHeartbeats 2000000 in
theorem Period_any (fp lp : Option Addr) (fc lc : Nat) (A : Alpha) (s : ByteArray) (hs : s.size ≤ 140737488351232) (w : World) (hA : AlphaAt w fp lp A) (hT : Tabs w) :
    Calls Tryd.prog 11 #[.agg #[.slice fp A.feats.length fc, .slice lp A.lets.length lc], .string s] w fun e w' => e = .returned (.tuple #[.int .i64 (periodL (spell A s).1 : Nat), .int .i64 (spell A s).2]) ∧ Ext w w' := by
  have hx3 : Ext w (w.alloc (.cells #[.slice fp A.feats.length fc, .slice lp A.lets.length lc] 25)) := (Ext.refl _).alloc _
  have hcon := Letters_any fp lp fc lc A s hs _ (hA.mono hx3) (hT.ext hx3)
  have h64 := spell_len A s
  have hE := spell_err (A := A) (s := s)
  obtain ⟨l, hl⟩ : ∃ l, (spell A s).1 = l := ⟨_, rfl⟩
  obtain ⟨er, her⟩ : ∃ er, (spell A s).2 = er := ⟨_, rfl⟩
  rw [hl, her] at hcon hE
  rw [hl] at h64
  rw [hl, her]
  clear hl her
  by_cases h0 : er = 0
  · subst h0
    clear hE
    by_cases hnil : l.length = 0
    · have hst : periodL l = 0 := by unfold periodL; rw [if_pos hnil]
      rw [hst]
      have hnil2 : l = [] := List.length_eq_zero_iff.1 hnil
      subst hnil2
      go_enter Tryd.func11, Tryd.ntmps11
      go_wp2_with (go_at_call 25; refine hcon.mono ?_; rintro e w1 ⟨lrp, lrc, rfl, ho, hx1⟩)
      go_ret2
      exact ⟨rfl, hx3.trans hx1⟩
    · have hne : ((l.length : Int) == 0) = false := by rw [beq_eq_false_iff_ne]; omega
      go_enter Tryd.func11, Tryd.ntmps11
      go_wp2_with (go_at_call 25; refine hcon.mono ?_; rintro e w1 ⟨lrp, lrc, rfl, ho, hx1⟩)
      obtain ⟨g, rfl, hgc, hgb⟩ := OwnRunes_some ho (by omega)
      go_loopw [8] (fun i wr => ∃ k : Nat, 1 ≤ k ∧ k ≤ l.length ∧ i = .int .i64 k ∧ Ext w1 wr ∧ Hid (∀ j, 1 ≤ j → j < k → perB l j = false)) (fun i _ => l.length + 1 - (intOf i).toNat)
      case atStart => exact ⟨1, Nat.le_refl _, by omega, by go_num, Ext.refl _, fun j h1 h2 => by omega⟩
      case round =>
        obtain ⟨k, hk1, hk, rfl, hx, HN⟩ := hrel
        go_wp2_with fail
        go_loopw [9, 10] (fun b i wq => ∃ q : Nat, k ≤ q ∧ q ≤ l.length ∧ b = .bool (perTo l k q) ∧ i = .int .i64 q ∧ Ext wr wq) (fun _ i _ => l.length - (intOf i).toNat)
        case atStart => exact ⟨k, Nat.le_refl _, hk, by rw [perTo_start], rfl, Ext.refl _⟩
        case round =>
          obtain ⟨q, hq1, hq2, rfl, rfl, hx2⟩ := hrel
          by_cases hlt : q < l.length
          · cases hp : perTo l k q
            · have hst := perTo_no hp
              have HS := Lib.hid hst
              clear hst
              go_wp2_with fail
              (refine wp_region_ext (by kernel_rfl) (by kernel_rfl) ?_; intro ι hι g hg; (repeat (go_big_quiet_step (fail))); refine wpQuiet_nil ?_; rintro w2 ⟨i2, rfl⟩; have hq := hg.ext i2; generalize g i2 = w2 at hq ⊢; clear  i2 hg g hι ι)
              go_wp2_with fail
              refine ⟨⟨q + 1, by omega, by omega, by rw [HS.out], by go_num, hx2.trans hq⟩, by simp [intOf]; omega⟩
            · have hst := perTo_step hq1 hp
              have HS := Lib.hid hst
              clear hst
              have hro := ho.at_.mono (hx.trans hx2)
              obtain ⟨_, c0⟩ := hro.cell hlt
              obtain ⟨_, d0⟩ := hro.cell (show q - k < l.length by omega)
              rw [Nat.zero_add] at c0 d0
              clear hro
              go_wp2_with fail
              (refine wp_region_ext (by kernel_rfl) (by kernel_rfl) ?_; intro ι hι g hg; have q_c0 := hg.cell c0; have q_d0 := hg.cell d0; clear c0 d0; (repeat (go_big_quiet_step (fail))); refine wpQuiet_nil ?_; rintro w2 ⟨i2, rfl⟩; have hq := hg.ext i2; generalize g i2 = w2 at hq ⊢; clear q_c0 q_d0 i2 hg g hι ι)
              go_wp2_with fail
              refine ⟨⟨q + 1, by omega, by omega, by rw [HS.out], by go_num, hx2.trans hq⟩, by simp [intOf]; omega⟩
          · have e : q = l.length := by omega
            subst e
            have he := perTo_end hk
            cases hp : perB l k
            · rw [hp] at he
              rw [he]
              go_wp2_with fail
              have hne2 : k ≠ l.length := fun e => by rw [e, perB_all] at hp; cases hp
              refine ⟨⟨k + 1, by omega, by omega, by go_num, hx.trans hx2, ?_⟩, by simp [intOf]; omega⟩
              intro j h1 h2
              by_cases e : j = k
              · rw [e]; exact hp
              · exact HN.out j h1 (by omega)
            · rw [hp] at he
              rw [he]
              have hst : periodL l = k := by
                by_cases e : k = l.length
                · rw [e]; exact periodL_none fun j h1 h2 => HN.out j h1 (by omega)
                · exact periodL_at hk1 (by omega) hp HN.out
              have HS := Lib.hid hst
              clear hst
              go_wp2_with fail
              go_ret2
              exact ⟨by rw [HS.out]; first | done | rfl, ((hx3.trans hx1).trans hx).trans hx2⟩
  · have hn : (er != 0) = true := by rw [bne_iff_ne]; exact h0
    have hl := hE h0
    subst hl
    go_enter Tryd.func11, Tryd.ntmps11
    go_wp2_with (go_at_call 25; refine hcon.mono ?_; rintro e w1 ⟨lrp, lrc, rfl, ho, hx1⟩)
    go_ret2
    exact ⟨rfl, hx3.trans hx1⟩

end Go.Proofs.YtcjdpicepjoeoaaDoor
