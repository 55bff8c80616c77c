/- Contracts: double.Runs and its reference. -/
import Derived.Test.YtcjdpicepjoeoaaDoorDouba
namespace Go.Proofs.YtcjdpicepjoeoaaDoor
open Go.RowKit Go.Cg Go.Shelf Go.Maps

theorem infoS : (Tryd.prog.info? 35).map (fun i => (i.zero, i.size, i.bytes)) = some (some (.agg #[.int .i64 0, .int .i64 0]), 2, 16) := by kernel_rfl
theorem two_cells (w : World) (a b : Value) (T : TypeId) : ∀ j u, [a, b][j]? = some u → (w.alloc (.cells #[a, b] T (0, 0))).cell? ((⟨w.heap.size, 0, none⟩ : Addr).add j) = some u := by
  intro j u h
  have := (Ext.refl (w.alloc (.cells #[a, b] T (0, 0)))).cell0 j
  have e : ((⟨w.heap.size, 0, none⟩ : Addr).add j) = ⟨w.heap.size, j, none⟩ := by simp [Addr.add]; intro h; omega
  rw [e, this, ← h]; simp
theorem OwnRunes_some {T B : Nat} {w : World} {p : Option Addr} {c : Nat} {l : List Int} (h : OwnRunes T B w p c l) (h0 : 0 < l.length) : ∃ g, p = some ⟨g, 0, none⟩ ∧ l.length ≤ c ∧ B ≤ g := by
  rcases h.1.2 with ⟨_, hn⟩ | ⟨g, cap, cur, hv, hb, hg, hn, hc, _⟩
  · omega
  · simp only [Value.slice.injEq, true_and] at hv
    obtain ⟨rfl, rfl⟩ := hv
    exact ⟨g, rfl, hn, hb⟩
theorem spell_len (A : Alpha) (s : ByteArray) : (spell A s).1.length ≤ 64 := by
  unfold spell
  split
  · exact (spellFrom_rune A s _ _ _ (fun r hr => by cases hr) (by simp)).2
  · simp

set_option maxRecDepth 100000 in
set_option maxHeartbeats 2000000 in
theorem runs_any (fp lp : Option Addr) (fc lc : Nat) (A : Alpha) (s : ByteArray) (hs : s.size ≤ 140737488351232) (w : World) (hA : AlphaAt w fp lp A) (hT : Tabs w) :
    Calls Tryd.prog 8 #[.agg #[.slice fp A.feats.length fc, .slice lp A.lets.length lc], .string s] w fun e w' => ∃ rp rc, e = .returned (.tuple #[.slice rp (runsL (spell A s).1).length rc, .int .i64 (spell A s).2]) ∧ w'.ownsRow w.heap.size 35 2 (.slice rp (runsL (spell A s).1).length rc) (runsL (spell A s).1).length (spanCells (runsL (spell A s).1)) ∧ Ext w w' := by
  have hx3 : Ext w (w.alloc (.cells #[.slice fp A.feats.length fc, .slice lp A.lets.length lc] 25)) := (Ext.refl _).alloc _
  obtain ⟨i0, hi, hz0, hz1, hz2⟩ := info_parts infoS
  have hcon := letters_any fp lp fc lc A s hs _ (hA.mono hx3) (hT.ext hx3)
  have h64 := spell_len A s
  have hE := spell_err (A := A) (s := s)
  obtain ⟨l, hl⟩ : ∃ l, (spell A s).1 = l := ⟨_, rfl⟩
  obtain ⟨er, her⟩ : ∃ er, (spell A s).2 = er := ⟨_, rfl⟩
  rw [hl, her] at hcon hE
  rw [hl] at h64
  rw [hl, her]
  clear hl her
  by_cases h0 : er = 0
  · subst h0
    clear hE
    go_enter Tryd.func8, Tryd.ntmps8
    go_wp2_with (go_at_call 13; refine hcon.mono ?_; rintro e w1 ⟨lrp, lrc, rfl, ho, hx1⟩)
    have hbl := (hx3.trans hx1).le
    go_loopw [8, 23] (fun out i wr => ∃ k : Nat, k ≤ l.length ∧ i = .int .i64 k ∧ Ext w1 wr ∧ wr.ownsRow w1.heap.size 35 2 out (runsTo l k).length (spanCells (runsTo l k))) (fun _ i _ => l.length - (intOf i).toNat)
    case atStart => exact ⟨0, Nat.zero_le _, rfl, Ext.refl _, World.ownsRow_nil _ _ _ _⟩
    case round =>
      obtain ⟨k, hk, rfl, hx, hown⟩ := hrel
      obtain ⟨rp, rc, rfl⟩ := ownsRow_slice hown
      by_cases hlt : k < l.length
      · obtain ⟨g, rfl, hgc, hgb⟩ := OwnRunes_some ho (by omega)
        have hlen := runsTo_len l k
        have htw : ∀ (h : Nat), 0 < h → k + 2 * h ≤ l.length → ∀ W, Ext w1 W → Calls Tryd.prog 24 #[.slice (some ⟨g, k, none⟩) (2 * h) (lrc - k)] W fun e w' => e = .returned (.bool (sq (cutL l k (k + 2 * h)))) ∧ Ext W w' := by
          intro h hh hl W hW
          have hc := (ho.at_.mono hW).cut k (k + 2 * h) hl
          have e : (cutL l k (k + 2 * h)).length = 2 * h := by rw [cutL_length _ _ _ hl]; omega
          have := twice_any g (0 + k) (lrc - k) _ W hc (by omega) (by omega)
          rw [e, Nat.zero_add] at this
          exact this
        have HT := Lib.hid htw
        clear htw
        go_wp2_with fail
        go_loopw [8, 10] (fun ov hv wq => ∃ h : Nat, ov = .slice rp (runsTo l k).length rc ∧ hv = .int .i64 h ∧ k + 2 * h ≤ l.length ∧ Hid (lastSq l k l.length = lastSq l k (k + 2 * h)) ∧ Ext wr wq) (fun _ hv _ => (intOf hv).toNat)
        case atStart => exact ⟨(l.length - k) / 2, rfl, by go_num, by omega, lastSq_top (by omega), Ext.refl _⟩
        case round =>
          obtain ⟨h, rfl, rfl, hle, HL, hx2⟩ := hrel
          by_cases hh : 0 < h
          · cases hsq : sq (cutL l k (k + 2 * h))
            ·
              have HT2 := Lib.hid (HT.out h hh hle _ (hx.trans hx2))
              go_wp2_with (go_at_call 24; refine HT2.out.mono ?_; rintro e w3 ⟨rfl, hx4⟩; rw [hsq])
              refine ⟨⟨h - 1, rfl, by go_num, by omega, ?_, hx2.trans hx4⟩, by simp [intOf]; omega⟩
              exact HL.out.trans (lastSq_half hh hle hsq)
            · have HT2 := Lib.hid (HT.out h hh hle _ (hx.trans hx2))
              have hst : runsTo l (k + 1) = runsTo l k ++ [(k, k + 2 * h)] := by
                have e := HL.out
                rw [lastSq_yes (by omega) hsq] at e
                rw [runsTo_some (by omega), e]
              have HS := Lib.hid hst
              clear hst
              go_wp2_with (first | (go_at_call 24; refine HT2.out.mono ?_; rintro e w3 ⟨rfl, hx4⟩; rw [hsq]; have hown3 := ownsRow_ext (ownsRow_ext hown hx2) hx4) | (at_builtin; go_loud (refine wpList_append_own _ rfl _ _ 27 rfl w1.heap.size 35 i0 (.agg #[.int .i64 0, .int .i64 0]) 2 16 Tryd.underlying27 hi hz0 hz1 hz2 rfl (by decide) _ _ _ rfl (hown3.alloc _) ⟨w3.heap.size, 0, none⟩ 1 1 [.int .i64 k, .int .i64 (k + 2 * h : Nat)] rfl rfl (two_cells _ _ _ _) (by simp [Value.oneCell']) (by unfold maxLen; omega) (by omega) (by simp; have := hx.le; have := hx2.le; have := hx4.le; omega) ?_); intro v' w4 hown4 hgrow _))
              refine ⟨⟨k + 1, by omega, by go_num, Ext.append (((hx.trans hx2).trans hx4).alloc _) (hown3.alloc _) hgrow (Nat.le_refl _), ?_⟩, by simp [intOf]; omega⟩
              rw [HS.out, List.length_append, spanCells_append]; exact hown4
          · have hz : h = 0 := by omega
            subst hz
            have hst : runsTo l (k + 1) = runsTo l k := runsTo_none (by rw [HL.out]; exact lastSq_low _ (by omega))
            have HS := Lib.hid hst
            clear hst
            go_wp2_with fail
            refine ⟨⟨k + 1, by omega, by go_num, hx.trans hx2, ?_⟩, by simp [intOf]; omega⟩
            rw [HS.out]; exact ownsRow_ext hown hx2
      · go_wp2_with fail
        go_ret2
        have e : k = l.length := by omega
        subst e
        exact ⟨rp, rc, rfl, ownsRow_base hown hbl, (hx3.trans hx1).trans hx⟩
  · have hn : (er != 0) = true := by rw [bne_iff_ne]; exact h0
    have hl := hE h0
    subst hl
    go_enter Tryd.func8, Tryd.ntmps8
    go_wp2_with (go_at_call 13; refine hcon.mono ?_; rintro e w1 ⟨lrp, lrc, rfl, ho, hx1⟩)
    go_ret2
    exact ⟨none, 0, rfl, World.ownsRow_nil _ _ _ _, hx3.trans hx1⟩

theorem spell_runes {A : Alpha} {s : ByteArray} (h : (spell A s).2 = 0) : ∀ r ∈ (spell A s).1, runeOk r = true := by
  obtain ⟨hA, _, hin, _⟩ := spell_ok h
  exact fun r hr => letter_ok hA (hin r hr)
theorem cut_mem {l : List Int} {i j : Nat} {q : Int → Prop} (h : ∀ r ∈ l, q r) : ∀ r ∈ cutL l i j, q r := fun r hr => h r (List.mem_of_mem_drop (List.mem_of_mem_take hr))

set_option maxRecDepth 100000 in
set_option maxHeartbeats 2000000 in
theorem Runs_any (fp lp : Option Addr) (fc lc : Nat) (A : Alpha) (s : ByteArray) (hs : s.size ≤ 140737488351232) (w : World) (hA : AlphaAt w fp lp A) (hT : Tabs w) :
    Calls Tryd.prog 9 #[.agg #[.slice fp A.feats.length fc, .slice lp A.lets.length lc], .string s] w fun e w' => ∃ rp rc, e = .returned (.tuple #[.slice rp (runsL (spell A s).1).length rc, .int .i64 (spell A s).2]) ∧ w'.ownsRow w.heap.size 35 2 (.slice rp (runsL (spell A s).1).length rc) (runsL (spell A s).1).length (spanCells (runsL (spell A s).1)) ∧ Ext w w' := by
  have hx3 : Ext w (w.alloc (.cells #[.slice fp A.feats.length fc, .slice lp A.lets.length lc] 25)) := (Ext.refl _).alloc _
  obtain ⟨i0, hi, hz0, hz1, hz2⟩ := info_parts infoS
  have hcon := Letters_any fp lp fc lc A s hs _ (hA.mono hx3) (hT.ext hx3)
  have h64 := spell_len A s
  have hE := spell_err (A := A) (s := s)
  have hO := spell_runes (A := A) (s := s)
  obtain ⟨l, hl⟩ : ∃ l, (spell A s).1 = l := ⟨_, rfl⟩
  obtain ⟨er, her⟩ : ∃ er, (spell A s).2 = er := ⟨_, rfl⟩
  rw [hl, her] at hcon hE hO
  rw [hl] at h64
  rw [hl, her]
  clear hl her
  by_cases h0 : er = 0
  · have hok := hO h0
    have HO := Lib.hid hok
    clear hE hok hO
    subst h0
    go_enter Tryd.func9, Tryd.ntmps9
    go_wp2_with (go_at_call 25; refine hcon.mono ?_; rintro e w1 ⟨lrp, lrc, rfl, ho, hx1⟩)
    have hbl := (hx3.trans hx1).le
    go_loopw [8, 9] (fun out i wr => ∃ k : Nat, k ≤ l.length ∧ i = .int .i64 k ∧ Ext w1 wr ∧ wr.ownsRow w1.heap.size 35 2 out (runsTo l k).length (spanCells (runsTo l k))) (fun _ i _ => l.length - (intOf i).toNat)
    case atStart => exact ⟨0, Nat.zero_le _, rfl, Ext.refl _, World.ownsRow_nil _ _ _ _⟩
    case round =>
      obtain ⟨k, hk, rfl, hx, hown⟩ := hrel
      obtain ⟨rp, rc, rfl⟩ := ownsRow_slice hown
      by_cases hlt : k < l.length
      · obtain ⟨g, rfl, hgc, hgb⟩ := OwnRunes_some ho (by omega)
        have hlen := runsTo_len l k
        have htw : ∀ (q : Nat), k + 1 ≤ q → q + 1 ≤ l.length → ∀ W, Ext w1 W → Calls Tryd.prog 26 #[.slice (some ⟨g, k, none⟩) (q + 1 - k) (lrc - k)] W fun e w' => e = .returned (.bool (sq (cutL l k (q + 1)))) ∧ Ext W w' := by
          intro q hh hl W hW
          have hc := (ho.at_.mono hW).cut k (q + 1) hl
          have e : (cutL l k (q + 1)).length = q + 1 - k := by rw [cutL_length _ _ _ hl]
          have := square_any g (0 + k) (lrc - k) _ W hc (by omega) (by omega) (cut_mem HO.out)
          rw [e, Nat.zero_add] at this
          exact this
        have HT := Lib.hid htw
        clear htw
        go_wp2_with fail
        go_loopw [10, 11] (fun tv kv wq => ∃ q : Nat, kv = .int .i64 (q + 1 : Nat) ∧ tv = .int .i64 (lastSq l k q : Nat) ∧ k + 1 ≤ q ∧ q ≤ l.length ∧ Ext wr wq) (fun _ kv _ => l.length + 1 - (intOf kv).toNat)
        case atStart => exact ⟨k + 1, by first | (go_num; done) | (simp; done) | (simp; omega), by rw [lastSq_low _ (by omega)]; rfl, by omega, by omega, Ext.refl _⟩
        case round =>
          obtain ⟨q, rfl, rfl, hq1, hq2, hx2⟩ := hrel
          by_cases hh : q + 1 ≤ l.length
          · have HT2 := Lib.hid (HT.out q hq1 hh _ (hx.trans hx2))
            cases hsq : sq (cutL l k (q + 1))
            · go_wp2_with (go_at_call 26; go_loud (refine HT2.out.mono ?_); rintro e w3 ⟨rfl, hx4⟩; rw [hsq])
              refine ⟨⟨q + 1, by go_num, by rw [lastSq_no hsq], by omega, by omega, hx2.trans hx4⟩, by simp [intOf]; omega⟩
            · go_wp2_with (go_at_call 26; refine HT2.out.mono ?_; rintro e w3 ⟨rfl, hx4⟩; rw [hsq])
              refine ⟨⟨q + 1, by go_num, by rw [lastSq_yes (by omega) hsq]; simp, by omega, by omega, hx2.trans hx4⟩, by simp [intOf]; omega⟩
          · have e : q = l.length := by omega
            subst e
            by_cases hz : lastSq l k l.length = 0
            · have hst := runsTo_none hz
              have HS := Lib.hid hst
              clear hst
              go_wp2_with fail
              refine ⟨⟨k + 1, by omega, by go_num, hx.trans hx2, ?_⟩, by simp [intOf]; omega⟩
              rw [HS.out]; exact ownsRow_ext hown hx2
            · have hst := runsTo_some hz
              have HS := Lib.hid hst
              clear hst
              have hown3 := ownsRow_ext hown hx2
              go_wp2_with (at_builtin; go_loud (refine wpList_append_own _ rfl _ _ 27 rfl w1.heap.size 35 i0 (.agg #[.int .i64 0, .int .i64 0]) 2 16 Tryd.underlying27 hi hz0 hz1 hz2 rfl (by decide) _ _ _ rfl (hown3.alloc _) ⟨wr.heap.size, 0, none⟩ 1 1 [.int .i64 k, .int .i64 (lastSq l k l.length : Nat)] rfl rfl (two_cells _ _ _ _) (by simp [Value.oneCell']) (by unfold maxLen; omega) (by omega) (by simp; have := hx.le; have := hx2.le; omega) ?_); intro v' w4 hown4 hgrow _)
              refine ⟨⟨k + 1, by omega, by go_num, Ext.append ((hx.trans hx2).alloc _) (hown3.alloc _) hgrow (Nat.le_refl _), ?_⟩, by simp [intOf]; omega⟩
              rw [HS.out, List.length_append, spanCells_append]; exact hown4
      · go_wp2_with fail
        go_ret2
        have e : k = l.length := by omega
        subst e
        exact ⟨rp, rc, rfl, ownsRow_base hown hbl, (hx3.trans hx1).trans hx⟩
  · have hn : (er != 0) = true := by rw [bne_iff_ne]; exact h0
    have hl := hE h0
    subst hl
    go_enter Tryd.func9, Tryd.ntmps9
    go_wp2_with (go_at_call 25; refine hcon.mono ?_; rintro e w1 ⟨lrp, lrc, rfl, ho, hx1⟩)
    go_ret2
    exact ⟨none, 0, rfl, World.ownsRow_nil _ _ _ _, hx3.trans hx1⟩

end Go.Proofs.YtcjdpicepjoeoaaDoor
