/- Contracts of the reference of harmony, and of the law's own examples: each call returns the plain value named and only adds blocks to memory; conditions: as ahead. -/
import Derived.Test.YtcnjgfadihimiaaDoorHarma
import Derived.Test.YtcnjgfadihimiaaDoorFeld
import Derived.Test.YtcnjgfadihimiaaDoorHeld
import Derived.Test.YtcnjgfadihimiaaDoorHarmb
namespace Go.Cg
open Go.RowKit Go.Lib
/-- a row of letters that is read -/
structure LetsAt (w : World) (p : Option Addr) (L : List Letter) : Prop where
  reads : Reads w p (L.length * 3) (Alpha.letCell ⟨[], L⟩)
  wf : ∀ i, i < L.length → (la L i).wf
theorem LetsAt.ext {w w' : World} {p : Option Addr} {L : List Letter} (h : LetsAt w p L) (hx : Ext w w') : LetsAt w' p L := ⟨h.reads.mono hx, h.wf⟩
theorem LetsAt.cells {w : World} {p : Option Addr} {L : List Letter} (h : LetsAt w p L) {i : Nat} (hi : i < L.length) :
    ∃ b off, p = some ⟨b, off, none⟩ ∧ b < w.heap.size ∧ w.cell? ⟨b, off + i * 3, none⟩ = some (.int .i32 (la L i).rune) ∧ w.cell? ⟨b, off + i * 3 + 1, none⟩ = some (.int .u32 ((la L i).plus : Int)) ∧ w.cell? ⟨b, off + i * 3 + 2, none⟩ = some (.int .u32 ((la L i).minus : Int)) := by
  rcases h.reads with h0 | ⟨b, off, hp, hlt, hc⟩
  · omega
  · obtain ⟨a0, a1, a2⟩ := letCell_la L i
    exact ⟨b, off, hp, hlt, (hc (i * 3) (by omega)).trans (by rw [a0]), (hc (i * 3 + 1) (by omega)).trans (by rw [a1]), (hc (i * 3 + 2) (by omega)).trans (by rw [a2])⟩
theorem LetsAt.cell {w : World} {b off : Nat} {L : List Letter} (h : LetsAt w (some ⟨b, off, none⟩) L) {i : Nat} (hi : i < L.length) :
    b < w.heap.size ∧ w.cell? ⟨b, off + i * 3, none⟩ = some (.int .i32 (la L i).rune) ∧ w.cell? ⟨b, off + i * 3 + 1, none⟩ = some (.int .u32 ((la L i).plus : Int)) ∧ w.cell? ⟨b, off + i * 3 + 2, none⟩ = some (.int .u32 ((la L i).minus : Int)) := by
  obtain ⟨b', off', hp, hlt, c⟩ := h.cells hi
  simp only [Option.some.injEq, Addr.mk.injEq, and_true] at hp
  obtain ⟨rfl, rfl⟩ := hp
  exact ⟨hlt, c⟩
theorem mayB_zero (n m : Nat) : mayB n m 0 = decide (m < 2 ^ n) := by
  unfold mayB
  have := Nat.two_pow_pos n
  simp [this]
theorem letCells_app (L : List Letter) (x : Letter) : (List.range ((L ++ [x]).length * 3)).map (Alpha.letCell ⟨[], L ++ [x]⟩) = (List.range (L.length * 3)).map (Alpha.letCell ⟨[], L⟩) ++ [.int .i32 x.rune, .int .u32 (x.plus : Int), .int .u32 (x.minus : Int)] := by
  have e : (L ++ [x]).length * 3 = L.length * 3 + 1 + 1 + 1 := by simp; omega
  rw [e, List.range_succ, List.range_succ, List.range_succ]
  simp only [List.map_append, List.map_cons, List.map_nil, List.append_assoc, List.cons_append, List.nil_append]
  have h := letCell_la (L ++ [x]) L.length
  have e1 : la (L ++ [x]) L.length = x := by simp [la, List.getD]
  rw [e1] at h
  obtain ⟨a0, a1, a2⟩ := h
  rw [a0, a1, a2]
  congr 1
  apply List.map_congr_left
  intro t ht
  have ht' : t < L.length * 3 := List.mem_range.1 ht
  have e : Alpha.at_ ⟨[], L ++ [x]⟩ (t / 3) = Alpha.at_ ⟨[], L⟩ (t / 3) := by
    have : t / 3 < L.length := by omega
    simp [Alpha.at_, List.getD, List.getElem?_append_left this]
  unfold Alpha.letCell
  rw [e]
theorem three_cells (w : World) (a b c : Value) (T : TypeId) : ∀ j u, [a, b, c][j]? = some u → (w.alloc (.cells #[a, b, c] T (0, 0))).cell? ((⟨w.heap.size, 0, none⟩ : Addr).add j) = some u := fun j u h => by
  have hadd : (⟨w.heap.size, 0, none⟩ : Addr).add j = ⟨w.heap.size, j, none⟩ := by unfold Addr.add; split <;> simp_all
  rw [hadd, (Ext.refl (w.alloc (.cells #[a, b, c] T (0, 0)))).cell0 j]
  simpa using h
def LetP (E : Int) (L : List Letter) (w : World) (e : Ending) (w' : World) : Prop := (E = 0 → ∃ p c, e = .returned (.tuple #[.slice p L.length c, .int .i64 0]) ∧ LetsAt w' p L) ∧ (E ≠ 0 → e = .returned (.tuple #[.slice none 0 0, .int .i64 E])) ∧ Ext w w'
theorem LetP.good {L : List Letter} {w w' : World} {e : Ending} {p : Option Addr} {c : Nat} (he : e = .returned (.tuple #[.slice p L.length c, .int .i64 0])) (hL : LetsAt w' p L) (hx : Ext w w') : LetP 0 L w e w' := ⟨fun _ => ⟨p, c, he, hL⟩, fun h => absurd rfl h, hx⟩
theorem LetP.bad {E : Int} {L : List Letter} {w w' : World} {e : Ending} (hE : E ≠ 0) (he : e = .returned (.tuple #[.slice none 0 0, .int .i64 E])) (hx : Ext w w') : LetP E L w e w' := ⟨fun h => absurd h hE, fun _ => he, hx⟩
end Go.Cg
namespace Go.Proofs.YtcnjgfadihimiaaDoor
open Go.RowKit Go.Cg Go.Shelf Go.Maps

set_option maxHeartbeats 1000000 in
theorem Alike14_any (r s : Int) (xp xm yp ym k : Nat) (hxp : xp < 4294967296) (hxm : xm < 4294967296) (hyp : yp < 4294967296) (hym : ym < 4294967296) (hk : k < 4294967296) (w : World) :
    Calls Tryd.prog 44 #[.agg #[.int .i32 r, .int .u32 xp, .int .u32 xm], .agg #[.int .i32 s, .int .u32 yp, .int .u32 ym], .int .u32 k] w fun e w' => e = .returned (.bool (decide (xp &&& k = yp &&& k ∧ xm &&& k = ym &&& k))) ∧ Ext w w' := by
  have e1 := u32_and_nat xp k hxp hk
  have e2 := u32_and_nat xm k hxm hk
  have e3 := u32_and_nat yp k hyp hk
  have e4 := u32_and_nat ym k hym hk
  rw [Bool.decide_and]
  obtain ⟨a, ha⟩ : ∃ a, xp &&& k = a := ⟨_, rfl⟩
  obtain ⟨b, hb⟩ : ∃ b, xm &&& k = b := ⟨_, rfl⟩
  obtain ⟨c, hc⟩ : ∃ c, yp &&& k = c := ⟨_, rfl⟩
  obtain ⟨d, hd⟩ : ∃ d, ym &&& k = d := ⟨_, rfl⟩
  rw [ha] at e1 ⊢
  rw [hb] at e2 ⊢
  rw [hc] at e3 ⊢
  rw [hd] at e4 ⊢
  clear ha hb hc hd
  by_cases h1 : a = c
  · subst h1
    by_cases h2 : b = d
    · subst h2
      go_enter Tryd.func44, Tryd.ntmps44
      go_wp2_with fail
      all_goals go_ret
      all_goals exact ⟨by simp, ((Ext.refl _).alloc _).alloc _⟩
    · have g2 : ((b : Int) == (d : Int)) = false := by rw [beq_eq_false_iff_ne]; omega
      have g3 : decide (b = d) = false := decide_eq_false h2
      rw [g3]
      go_enter Tryd.func44, Tryd.ntmps44
      go_wp2_with fail
      all_goals go_ret
      all_goals exact ⟨by simp, ((Ext.refl _).alloc _).alloc _⟩
  · have g2 : ((a : Int) == (c : Int)) = false := by rw [beq_eq_false_iff_ne]; omega
    have g3 : decide (a = c) = false := decide_eq_false h1
    rw [g3]
    go_enter Tryd.func44, Tryd.ntmps44
    go_wp2_with fail
    all_goals go_ret
    all_goals exact ⟨by simp, ((Ext.refl _).alloc _).alloc _⟩

set_option maxRecDepth 100000 in
set_option maxHeartbeats 4000000 in
theorem letters14_any (fp lp mp : Option Addr) (fc lc mc : Nat) (A : Alpha) (s : ByteArray) (hs : s.size ≤ 140737488351232) (ms : List Nat) (hn : ms.length ≤ 8) (w : World) (hA : AlphaAt w fp lp A) (hM : MasksAt w mp ms) (hTb : Tabs w) :
    Calls Tryd.prog 41 #[.agg #[.slice fp A.feats.length fc, .slice lp A.lets.length lc], .string s, .slice mp ms.length mc] w fun e w' => (signE A s ms = 0 → ∃ p c, e = .returned (.tuple #[.slice p (sgn A s).length c, .int .i64 0]) ∧ LetsAt w' p (sgn A s)) ∧ (signE A s ms ≠ 0 → e = .returned (.tuple #[.slice none 0 0, .int .i64 (signE A s ms)])) ∧ Ext w w' := by
  change Calls Tryd.prog 41 #[.agg #[.slice fp A.feats.length fc, .slice lp A.lets.length lc], .string s, .slice mp ms.length mc] w (LetP (signE A s ms) (sgn A s) w)
  have hx3 : Ext w (w.alloc (.cells #[.slice fp A.feats.length fc, .slice lp A.lets.length lc] 26)) := (Ext.refl _).alloc _
  have hcx := Letters_any fp lp fc lc A s hs _ (hA.mono hx3) (hTb.ext hx3)
  have hE : signE A s ms = if ltrE A s ≠ 0 then ltrE A s else maskE A ms := rfl
  have e1 : (spell A s).2 = ltrE A s := rfl
  have e2 : (spell A s).1 = ltr A s := rfl
  rw [e1, e2] at hcx
  clear e1 e2
  have HBX := Lib.hid (fun W (hW : Ext (w.alloc (.cells #[.slice fp A.feats.length fc, .slice lp A.lets.length lc] 26)) W) => (⟨hW.cell0 0, hW.cell0 1, hW.lt0⟩ : W.cell? ⟨w.heap.size, 0, none⟩ = some (.slice fp A.feats.length fc) ∧ W.cell? ⟨w.heap.size, 1, none⟩ = some (.slice lp A.lets.length lc) ∧ w.heap.size < W.heap.size))
  have hfb := hA.fbig
  by_cases h0 : ltrE A s = 0
  · rw [if_neg (fun h => h h0)] at hE
    obtain ⟨hok, _, hin, h64⟩ := ltr_ok h0
    rw [h0] at hcx
    rw [hE]
    have hwf := sgn_wf hA h0
    have hls : ∀ i, i < (ltr A s).length → ∃ t : Nat, findLetter A (rn (ltr A s) i) = t ∧ t < A.lets.length ∧ A.at_ t = la (sgn A s) i := fun i hi => by
      have h1 := hin (rn (ltr A s) i) (by rw [rn_eq hi]; exact List.getElem_mem hi)
      obtain ⟨t, h2, h3, _⟩ := findLetter_some h1
      refine ⟨t, h2, h3, ?_⟩
      rw [la_sgn (by unfold sgn; simpa using hi)]
      unfold letOf
      rw [h2]; rfl
    have hsl : (sgn A s).length = (ltr A s).length := by unfold sgn; simp
    have HMY := Lib.hid (fun j (hj : j < ms.length) W => (show Calls Tryd.prog 59 #[.agg #[.slice fp A.feats.length fc, .slice lp A.lets.length lc], .int .u32 (nm_ ms j : Nat), .int .u32 0] W fun e w' => e = .returned (.bool (decide (nm_ ms j < 2 ^ A.feats.length))) ∧ Ext W w' from by rw [← mayB_zero]; exact May_any fp A.feats.length fc (.slice lp A.lets.length lc) (nm_ ms j) 0 (hM.2 j hj) (by decide) hfb W))
    have HME := Lib.hid (fun j (hj : j < ms.length) h => maskE_bad (A := A) hj h)
    have HMO := Lib.hid (fun h => maskE_ok (A := A) (ms := ms) h)
    obtain ⟨E, hEE⟩ : ∃ E, maskE A ms = E := ⟨_, rfl⟩
    rw [hEE] at HME HMO ⊢
    have HFI := Lib.hid (fun r W (hW : Ext w W) => Find_any fp lp fc lc A r W (hA.mono hW))
    obtain ⟨i0, hi, hz0, hz1, hz2⟩ := info_parts infoLe
    obtain ⟨X, hX⟩ : ∃ X, ltr A s = X := ⟨_, rfl⟩
    obtain ⟨L, hL⟩ : ∃ L, sgn A s = L := ⟨_, rfl⟩
    rw [hX] at hcx hls h64 hsl
    rw [hL] at hls hwf hsl ⊢
    have HWF := Lib.hid hwf
    have HLS := Lib.hid hls
    have HSL := Lib.hid hsl
    clear hE h0 hok hin hwf hls hsl hEE hX hL hx3
    have hb0 : Ext w (w.alloc (.cells #[.slice fp A.feats.length fc, .slice lp A.lets.length lc] 26)) := (Ext.refl _).alloc _
    go_enter Tryd.func41, Tryd.ntmps41
    go_wp2_with (go_at_call 58; refine hcx.mono ?_; rintro e w1 ⟨xp, xc, rfl, ho, hx1⟩)
    have hxw := hb0.trans hx1
    clear hcx
    go_loopw [10] (fun i wr => ∃ j : Nat, j ≤ ms.length ∧ i = .int .i64 j ∧ Ext w1 wr ∧ Hid (∀ t, t < j → nm_ ms t < 2 ^ A.feats.length)) (fun i _ => ms.length - (intOf i).toNat)
    case atStart => exact ⟨0, Nat.zero_le _, rfl, Ext.refl _, fun j hj => by omega⟩
    case round =>
      obtain ⟨j, hj, rfl, hx, HZ⟩ := hrel
      by_cases hlt : j < ms.length
      · obtain ⟨b, off, e0, hbw, hc⟩ := (hM.mono (hxw.trans hx)).1.cells_ hlt
        have c0 := hc j hlt
        subst e0
        obtain ⟨d0, d1, l0⟩ := HBX.out _ (hx1.trans hx)
        have hmy := HMY.out j hlt
        have hm := hM.2 j hlt
        clear hc
        by_cases hb : nm_ ms j < 2 ^ A.feats.length
        · rw [decide_eq_true hb] at hmy
          have HY := Lib.hid hmy
          have HB := Lib.hid hb
          clear hmy hb
          go_wp2_with fail
          (refine wp_region_ext (by kernel_rfl) (by kernel_rfl) ?_; intro ι hι g hg; have q_d0 := hg.cell d0; have q_d1 := hg.cell d1; have q_c0 := hg.cell c0; clear d0 d1 c0; (repeat (go_big_quiet_step ((go_at_call 59; exact hg.call (HY.out _))))); refine wpQuiet_nil ?_; rintro w8 ⟨i2, rfl⟩; have hq := hg.ext i2; generalize g i2 = w8 at hq ⊢; clear q_d0 q_d1 q_c0 i2 hg g hι ι)
          go_wp2_with fail
          exact ⟨⟨j + 1, by omega, by go_num, hx.trans hq, upto_succ HZ.out HB.out⟩, by simp [intOf]; omega⟩
        · have hE20 := HME.out j hlt hb
          rw [decide_eq_false hb] at hmy
          have HY := Lib.hid hmy
          subst hE20
          clear hmy hb
          go_wp2_with fail
          (refine wp_region_ext (by kernel_rfl) (by kernel_rfl) ?_; intro ι hι g hg; have q_d0 := hg.cell d0; have q_d1 := hg.cell d1; have q_c0 := hg.cell c0; clear d0 d1 c0; (repeat (go_big_quiet_step ((go_at_call 59; exact hg.call (HY.out _))))); refine wpQuiet_nil ?_; rintro w8 ⟨i2, rfl⟩; have hq := hg.ext i2; generalize g i2 = w8 at hq ⊢; clear q_d0 q_d1 q_c0 i2 hg g hι ι)
          go_wp2_with fail
          go_ret2
          exact LetP.bad (by decide) rfl ((hxw.trans hx).trans hq)
      · have e : j = ms.length := by omega
        subst e
        have hE0 := HMO.out HZ.out
        subst hE0
        have HX0 := Lib.hid hx
        clear hx
        go_wp2_with fail
        go_loopw [11, 12] (fun o i wq => ∃ (j : Nat) (p : Option Addr) (c : Nat), j ≤ X.length ∧ i = .int .i64 j ∧ o = .slice p j c ∧ Ext w1 wq ∧ wq.ownsRow w1.heap.size 52 3 (.slice p j c) j ((List.range (j * 3)).map (Alpha.letCell ⟨[], L⟩))) (fun _ i _ => X.length - (intOf i).toNat)
        case atStart => exact ⟨0, none, 0, Nat.zero_le _, rfl, rfl, HX0.out, World.ownsRow_nil _ _ _ _⟩
        case round =>
          obtain ⟨j, p, c, hj, rfl, rfl, hy, hown⟩ := hrel
          by_cases hlt : j < X.length
          · obtain ⟨b, off, e0, hbw, c0⟩ := ho.at_.cells hlt
            subst e0
            obtain ⟨t, ht1, ht2, ht3⟩ := HLS.out j hlt
            obtain ⟨bl, offl, el, hbl⟩ := hA.lsome (by omega)
            subst el
            have hfi := HFI.out (rn X j)
            rw [ht1] at hfi
            have HF := Lib.hid (fun W (hW : Ext wr W) => hfi W (hxw.trans (hy.trans hW)))
            have hS4 := fun (W : World) (hW : Ext w1 W) => (⟨hW, (HBX.out _ (hx1.trans hW)).1, (HBX.out _ (hx1.trans hW)).2.1, (hW.facts.1 b (off + j) hbw).trans c0, (by have := ((hA.mono (hxw.trans hW)).lcell ht2).2.1; rw [ht3] at this; exact this), (by have := ((hA.mono (hxw.trans hW)).lcell ht2).2.2.1; rw [ht3] at this; exact this), (by have := ((hA.mono (hxw.trans hW)).lcell ht2).2.2.2; rw [ht3] at this; exact this)⟩ :
              Ext w1 W ∧ W.cell? ⟨w.heap.size, 0, none⟩ = some (.slice fp A.feats.length fc) ∧ W.cell? ⟨w.heap.size, 1, none⟩ = some (.slice (some ⟨bl, offl, none⟩) A.lets.length lc) ∧ W.cell? ⟨b, off + j, none⟩ = some (.int .i32 (rn X j)) ∧ W.cell? ⟨bl, offl + t * 3, none⟩ = some (.int .i32 (la L j).rune) ∧ W.cell? ⟨bl, offl + t * 3 + 1, none⟩ = some (.int .u32 ((la L j).plus : Int)) ∧ W.cell? ⟨bl, offl + t * 3 + 2, none⟩ = some (.int .u32 ((la L j).minus : Int)))
            have HS4 := Lib.hid hS4
            have hlb := hA.lbig
            have hy8 := hy.le
            have ht2z : (t : Int) < (A.lets.length : Int) := by omega
            clear hfi ht1 ht3 hS4 c0
            go_wp2_with fail
            go_region_held3 (fun W => Ext w1 W ∧ W.cell? ⟨w.heap.size, 0, none⟩ = some (.slice fp A.feats.length fc) ∧ W.cell? ⟨w.heap.size, 1, none⟩ = some (.slice (some ⟨bl, offl, none⟩) A.lets.length lc) ∧ W.cell? ⟨b, off + j, none⟩ = some (.int .i32 (rn X j)) ∧ W.cell? ⟨bl, offl + t * 3, none⟩ = some (.int .i32 (la L j).rune) ∧ W.cell? ⟨bl, offl + t * 3 + 1, none⟩ = some (.int .u32 ((la L j).plus : Int)) ∧ W.cell? ⟨bl, offl + t * 3 + 2, none⟩ = some (.int .u32 ((la L j).minus : Int))) (exact HS4.out _ (by first | assumption | exact hy.drew | exact hy.trans hE5 | exact (hy.trans hE5).alloc _))
              (first
                | (go_at_call 46; refine (HF.out _ (Ext.refl _).drew).mono ?_; rintro e w5 ⟨rfl, hq5⟩; have hE5 : Ext wr w5 := ((Ext.refl _).drew).trans hq5)
                | (rw [if_pos (by rfl)]; refine wp_append_own _ _ _ 24 rfl w1.heap.size 52 i0 (.agg #[.int .i32 0, .int .u32 0, .int .u32 0]) 3 12 Tryd.underlying24 hi hz0 hz1 hz2 rfl (by decide) (.slice p j c) j _ (by rfl) ((ownsRow_ext hown hE5).alloc _) ⟨w5.heap.size, 0, none⟩ 1 1 [.int .i32 (la L j).rune, .int .u32 ((la L j).plus : Int), .int .u32 ((la L j).minus : Int)] (by rfl) rfl (three_cells _ _ _ _ _) (by simp [Value.oneCell']) (by unfold maxLen; omega) (by omega) (by simp; have := hE5.le; omega) ?_; intro v' w4 hown4 hgrow _; have hE4 : Ext w1 w4 := Ext.append ((hy.trans hE5).alloc _) ((ownsRow_ext hown hE5).alloc _) hgrow (Nat.le_refl _)))
            go_wp2_with fail
            obtain ⟨p', c', hv'⟩ := ownsRow_slice hown4
            subst hv'
            refine ⟨⟨j + 1, p', c', by omega, by go_num, rfl, hE4, ?_⟩, by simp [intOf]; omega⟩
            have e9 : (List.range ((j + 1) * 3)).map (Alpha.letCell ⟨[], L⟩) = (List.range (j * 3)).map (Alpha.letCell ⟨[], L⟩) ++ [.int .i32 (la L j).rune, .int .u32 ((la L j).plus : Int), .int .u32 ((la L j).minus : Int)] := by
              obtain ⟨b0, b1, b2⟩ := letCell_la L j
              rw [show (j + 1) * 3 = j * 3 + 1 + 1 + 1 by omega, List.range_succ, List.range_succ, List.range_succ]
              simp only [List.map_append, List.map_cons, List.map_nil, List.append_assoc, List.cons_append, List.nil_append, b0, b1, b2]
            rw [e9]; exact hown4
          · have e : j = X.length := by omega
            subst e
            have hR := ownsRow_reads (f := Alpha.letCell ⟨[], L⟩) hown (fun t ht => by rw [List.getElem?_map, List.getElem?_range ht]; rfl)
            have HR := Lib.hid hR
            clear hown hR
            go_wp2_with fail
            go_ret2
            exact LetP.good (p := p) (c := c) (by rw [HSL.out]; rfl) ⟨by rw [HSL.out]; exact HR.out, HWF.out⟩ (hxw.trans hy)
  · rw [if_pos h0] at hE
    rw [hE]
    have gE : (ltrE A s != 0) = true := by rw [bne_iff_ne]; exact h0
    have HH := Lib.hid h0
    clear hE h0
    go_enter Tryd.func41, Tryd.ntmps41
    go_wp2_with (go_at_call 58; refine hcx.mono ?_; rintro e w1 ⟨xp, xc, rfl, ho, hx1⟩)
    go_ret2
    exact LetP.bad HH.out rfl (hx3.trans hx1)

end Go.Proofs.YtcnjgfadihimiaaDoor

namespace Go.Cg
open Go.RowKit Go.Lib
theorem likeB_zero (l : Letter) (p : Nat) : likeB l.plus l.minus p 0 = ofB l p := by
  unfold likeB ofB; simp
/-- all letters of a row are an alphabet's -/
def FromA (A : Alpha) (L : List Letter) : Prop := ∀ i, i < L.length → ∃ t, t < A.lets.length ∧ la L i = A.at_ t
theorem sgn_fromA {A : Alpha} {s : ByteArray} (h : ltrE A s = 0) : FromA A (sgn A s) := fun i hi => by
  have h2 : i < (ltr A s).length := by unfold sgn at hi; simpa using hi
  have hin := (ltr_ok h).2.2.1 (rn (ltr A s) i) (by rw [rn_eq h2]; exact List.getElem_mem h2)
  obtain ⟨_, t, ht, e⟩ := letOf_rune hin
  exact ⟨t, ht, by rw [la_sgn hi, e]⟩
theorem find_at {A : Alpha} (hA : A.Ok) {i : Nat} (hi : i < A.lets.length) : findLetter A (A.at_ i).rune = i :=
  findLetter_at hi (fun j hj => (hA.2.2.2.2 i hi).2.2 j hj) rfl
/-- a part of a letter's signs may be a class -/
theorem may_part {A : Alpha} (hA : A.Ok) {j : Nat} (hj : j < A.lets.length) (k : Nat) : mayB A.feats.length ((A.at_ j).plus &&& k) ((A.at_ j).minus &&& k) = true := by
  obtain ⟨h1, h2, h3⟩ := Ok_lt hA hj
  unfold mayB
  rw [decide_eq_true_eq]
  refine ⟨Nat.lt_of_le_of_lt Nat.and_le_left h1, Nat.lt_of_le_of_lt Nat.and_le_left h2, ?_⟩
  have : ((A.at_ j).plus &&& k) &&& ((A.at_ j).minus &&& k) = ((A.at_ j).plus &&& (A.at_ j).minus) &&& k := by
    apply Nat.eq_of_testBit_eq
    intro t
    simp only [Nat.testBit_and]
    cases (A.at_ j).plus.testBit t <;> cases (A.at_ j).minus.testBit t <;> cases k.testBit t <;> rfl
  rw [this, h3]; simp
end Go.Cg
namespace Go.Proofs.YtcnjgfadihimiaaDoor
open Go.RowKit Go.Cg Go.Shelf Go.Maps

set_option maxRecDepth 100000 in
set_option maxHeartbeats 2000000 in
theorem takes14_any (fp lp : Option Addr) (fc lc : Nat) (A : Alpha) (hok : A.Ok) (i j : Nat) (hi : i < A.lets.length) (hj : j < A.lets.length) (k : Nat) (hk : k < 4294967296) (w : World) (hA : AlphaAt w fp lp A) :
    Calls Tryd.prog 45 #[.agg #[.slice fp A.feats.length fc, .slice lp A.lets.length lc], .agg #[.int .i32 (A.at_ i).rune, .int .u32 ((A.at_ i).plus : Int), .int .u32 ((A.at_ i).minus : Int)], .agg #[.int .i32 (A.at_ j).rune, .int .u32 ((A.at_ j).plus : Int), .int .u32 ((A.at_ j).minus : Int)], .int .u32 k] w fun e w' => e = .returned (.int .i32 (takR A (A.at_ i) (A.at_ j) k)) ∧ Ext w w' := by
  obtain ⟨a1, a2, a3, a4⟩ := hA.wf i hi
  obtain ⟨b1, b2, b3, b4⟩ := hA.wf j hj
  have e1 := u32_and_nat (A.at_ j).plus k b3 hk
  have e2 := u32_and_nat (A.at_ j).minus k b4 hk
  have hmay := may_part hok hj k
  have hpl : (A.at_ j).plus &&& k < 4294967296 := Nat.lt_of_le_of_lt Nat.and_le_left b3
  have hml : (A.at_ j).minus &&& k < 4294967296 := Nat.lt_of_le_of_lt Nat.and_le_left b4
  have ht : takR A (A.at_ i) (A.at_ j) k = if likeB (A.at_ i).plus (A.at_ i).minus ((A.at_ j).plus &&& k) ((A.at_ j).minus &&& k) = true then (A.at_ i).rune else nearR A (A.at_ i).rune ((A.at_ j).plus &&& k) ((A.at_ j).minus &&& k) := rfl
  rw [ht]
  clear ht
  obtain ⟨p, hp⟩ : ∃ p, (A.at_ j).plus &&& k = p := ⟨_, rfl⟩
  obtain ⟨m, hm⟩ : ∃ m, (A.at_ j).minus &&& k = m := ⟨_, rfl⟩
  rw [hp] at e1 hmay hpl ⊢
  rw [hm] at e2 hmay hml ⊢
  clear hp hm
  have HL := Lib.hid (fun W => Like_any (A.at_ i).rune (A.at_ i).plus (A.at_ i).minus p m a3 a4 hpl hml W)
  have hn : nearR A (A.at_ i).rune p m = (A.at_ (nearIdx A (wantP (A.at_ i) p m) (wantM (A.at_ i) p m))).rune := by
    have hO := ofL_ok hok (find_at hok hi)
    have hE : hasE A (A.at_ i).rune p m = 0 := by
      unfold hasE
      rw [if_pos (ofE_ok hok (by rw [find_at hok hi]; omega)), if_pos hmay]
    unfold nearR
    rw [if_pos hE, hO]
  have h24' : ∀ t, t < A.lets.length → unlikeN (A.at_ t).plus (A.at_ t).minus (wantP (A.at_ i) p m) (wantM (A.at_ i) p m) = pop 24 (((A.at_ t).plus ^^^ wantP (A.at_ i) p m) ||| ((A.at_ t).minus ^^^ wantM (A.at_ i) p m)) := fun t ht => by
    have l1 := Ok_lt hok ht
    have l2 := Ok_lt hok hi
    have h24 := pow24 hok.1
    have hpm : p < 2 ^ A.feats.length ∧ m < 2 ^ A.feats.length := by unfold mayB at hmay; simp only [decide_eq_true_eq] at hmay; exact ⟨hmay.1, hmay.2.1⟩
    have := want24 (l := A.at_ i) (p := p) (m := m) (by omega) (by omega) (by omega) (by omega)
    exact pop24 (by omega) (by omega) this.1 this.2
  have HN := Lib.hid (fun W (hW : Ext w W) => Nearest02_any fp lp fc lc A (A.at_ i) ⟨a1, a2, a3, a4⟩ p m hpl hml W (hA.mono hW) (by omega) h24')
  obtain ⟨N, hN⟩ : ∃ N, (A.at_ (nearIdx A (wantP (A.at_ i) p m) (wantM (A.at_ i) p m))).rune = N := ⟨_, rfl⟩
  rw [hN] at hn HN
  rw [hn]
  clear hn h24' hmay hN
  obtain ⟨b, hb⟩ : ∃ b, likeB (A.at_ i).plus (A.at_ i).minus p m = b := ⟨_, rfl⟩
  rw [hb] at HL ⊢
  clear hb
  have hx4 : Ext w (((w.alloc (.cells #[.slice fp A.feats.length fc, .slice lp A.lets.length lc] 26)).alloc (.cells #[.int .i32 (A.at_ i).rune, .int .u32 ((A.at_ i).plus : Int), .int .u32 ((A.at_ i).minus : Int)] 52)).alloc (.cells #[.int .i32 (A.at_ j).rune, .int .u32 ((A.at_ j).plus : Int), .int .u32 ((A.at_ j).minus : Int)] 52)) := (((Ext.refl _).alloc _).alloc _).alloc _
  have HQ := Lib.hid (fun W (hW : Ext (((w.alloc (.cells #[.slice fp A.feats.length fc, .slice lp A.lets.length lc] 26)).alloc (.cells #[.int .i32 (A.at_ i).rune, .int .u32 ((A.at_ i).plus : Int), .int .u32 ((A.at_ i).minus : Int)] 52)).alloc (.cells #[.int .i32 (A.at_ j).rune, .int .u32 ((A.at_ j).plus : Int), .int .u32 ((A.at_ j).minus : Int)] 52)) W) => by
    have q0 : Ext (w.alloc (.cells #[.slice fp A.feats.length fc, .slice lp A.lets.length lc] 26)) W := (((Ext.refl _).alloc _).alloc _).trans hW
    have q1 : Ext ((w.alloc (.cells #[.slice fp A.feats.length fc, .slice lp A.lets.length lc] 26)).alloc (.cells #[.int .i32 (A.at_ i).rune, .int .u32 ((A.at_ i).plus : Int), .int .u32 ((A.at_ i).minus : Int)] 52)) W := ((Ext.refl _).alloc _).trans hW
    have r0 := q1.cell0 0
    have r1 := q1.cell0 1
    have r2 := q1.cell0 2
    have r3 := q1.lt0
    rw [size_alloc] at r0 r1 r2 r3
    exact (⟨q0.cell0 0, q0.cell0 1, q0.lt0, r0, r1, r2, r3⟩ : W.cell? ⟨w.heap.size, 0, none⟩ = some (.slice fp A.feats.length fc) ∧ W.cell? ⟨w.heap.size, 1, none⟩ = some (.slice lp A.lets.length lc) ∧ w.heap.size < W.heap.size ∧ W.cell? ⟨w.heap.size + 1, 0, none⟩ = some (.int .i32 (A.at_ i).rune) ∧ W.cell? ⟨w.heap.size + 1, 1, none⟩ = some (.int .u32 ((A.at_ i).plus : Int)) ∧ W.cell? ⟨w.heap.size + 1, 2, none⟩ = some (.int .u32 ((A.at_ i).minus : Int)) ∧ w.heap.size + 1 < W.heap.size))
  cases b
  · rw [if_neg (by decide)]
    go_enter Tryd.func45, Tryd.ntmps45
    go_wp2_with (first | (go_at_call 42; refine (HL.out _).mono ?_; rintro e w5 ⟨rfl, hx5⟩; obtain ⟨d0, d1, l0, r0, r1, r2, l1⟩ := HQ.out _ hx5) | (go_at_call 60; refine (HN.out _ (hx4.trans hx5)).mono ?_; rintro e w6 ⟨rfl, hx6⟩))
    go_ret
    exact ⟨rfl, (hx4.trans hx5).trans hx6⟩
  · rw [if_pos rfl]
    go_enter Tryd.func45, Tryd.ntmps45
    go_wp2_with (go_at_call 42; refine (HL.out _).mono ?_; rintro e w5 ⟨rfl, hx5⟩; obtain ⟨d0, d1, l0, r0, r1, r2, l1⟩ := HQ.out _ hx5)
    go_ret
    exact ⟨rfl, hx4.trans hx5⟩

set_option maxRecDepth 100000 in
set_option maxHeartbeats 4000000 in
theorem spread14_any (fp lp xp : Option Addr) (fc lc xc : Nat) (A : Alpha) (hok : A.Ok) (L : List Letter) (hfr0 : FromA A L) (p k fr : Nat) (hp : p < 4294967296) (hk : k < 4294967296) (hfr : fr < L.length) (hn : L.length ≤ 64) (w : World) (hA : AlphaAt w fp lp A) (hL : LetsAt w xp L) :
    Calls Tryd.prog 43 #[.agg #[.slice fp A.feats.length fc, .slice lp A.lets.length lc], .slice xp L.length xc, .int .u32 p, .int .u32 k, .int .i64 (fr : Int)] w fun e w' => e = .returned (.string (runesBytes (sprL A L p k fr))) ∧ Ext w w' := by
  have hx3 : Ext w (w.alloc (.cells #[.slice fp A.feats.length fc, .slice lp A.lets.length lc] 26)) := (Ext.refl _).alloc _
  have HBX := Lib.hid (fun W (hW : Ext (w.alloc (.cells #[.slice fp A.feats.length fc, .slice lp A.lets.length lc] 26)) W) => (⟨hW.cell0 0, hW.cell0 1, hW.lt0⟩ : W.cell? ⟨w.heap.size, 0, none⟩ = some (.slice fp A.feats.length fc) ∧ W.cell? ⟨w.heap.size, 1, none⟩ = some (.slice lp A.lets.length lc) ∧ w.heap.size < W.heap.size))
  have HTA := Lib.hid (fun i (hi : i < L.length) W (hW : Ext w W) => (by
    obtain ⟨t, ht, e⟩ := hfr0 i hi
    obtain ⟨u, hu, e2⟩ := hfr0 fr hfr
    rw [e, e2]
    exact takes14_any fp lp fc lc A hok t u ht hu k hk W (hA.mono hW) :
      Calls Tryd.prog 45 #[.agg #[.slice fp A.feats.length fc, .slice lp A.lets.length lc], .agg #[.int .i32 (la L i).rune, .int .u32 ((la L i).plus : Int), .int .u32 ((la L i).minus : Int)], .agg #[.int .i32 (la L fr).rune, .int .u32 ((la L fr).plus : Int), .int .u32 ((la L fr).minus : Int)], .int .u32 k] W fun e W' => e = .returned (.int .i32 (takR A (la L i) (la L fr) k)) ∧ Ext W W'))
  have HOF := Lib.hid (fun i (hi : i < L.length) W => (show Calls Tryd.prog 42 #[.agg #[.int .i32 (la L i).rune, .int .u32 ((la L i).plus : Int), .int .u32 ((la L i).minus : Int)], .int .u32 p, .int .u32 0] W fun e W' => e = .returned (.bool (ofB (la L i) p)) ∧ Ext W W' from by rw [← likeB_zero]; exact Like_any _ _ _ p 0 (hL.wf i hi).2.2.1 (hL.wf i hi).2.2.2 hp (by decide) W))
  have hSR : ∀ i, sprR A L p k fr i = if i ≠ fr ∧ ofB (la L i) p = true then takR A (la L i) (la L fr) k else (la L i).rune := fun _ => rfl
  have hwr : ∀ i, i < L.length → -2147483648 ≤ sprR A L p k fr i ∧ sprR A L p k fr i ≤ 2147483647 := fun i hi => by
    unfold sprR
    split
    · exact takR_range hA (hL.wf i hi) k
    · exact ⟨(hL.wf i hi).1, (hL.wf i hi).2.1⟩
  have hsp : sprL A L p k fr = (List.range L.length).map (sprR A L p k fr) := rfl
  rw [hsp]
  obtain ⟨SR, hS⟩ : ∃ SR, sprR A L p k fr = SR := ⟨_, rfl⟩
  rw [hS] at hSR hwr ⊢
  have HSR := Lib.hid hSR
  have HWR := Lib.hid hwr
  obtain ⟨i0, hi, hz0, hz1, hz2⟩ := info_parts infoRu
  clear hS hSR hwr hsp
  go_enter Tryd.func43, Tryd.ntmps43
  go_wp2_with fail
  go_loopw [11, 12, 13] (fun o i _ wr => ∃ (j : Nat) (op : Option Addr) (oc : Nat), j ≤ L.length ∧ i = .int .i64 j ∧ o = .slice op j oc ∧ Ext (w.alloc (.cells #[.slice fp A.feats.length fc, .slice lp A.lets.length lc] 26)) wr ∧ wr.ownsRow (w.heap.size + 1) 21 1 (.slice op j oc) j (((List.range j).map SR).map (Value.int .i32))) (fun _ i _ _ => L.length - (intOf i).toNat)
  case atStart => exact ⟨0, none, 0, Nat.zero_le _, rfl, rfl, Ext.refl _, World.ownsRow_nil _ _ _ _⟩
  case round =>
    obtain ⟨j, op, oc, hj, rfl, rfl, hx, hown⟩ := hrel
    have hsz := hx.le
    rw [size_alloc] at hsz
    by_cases hlt : j < L.length
    · obtain ⟨b, off, rfl, hbw, c0, c1, c2⟩ := (hL.ext hx.box).cells hlt
      obtain ⟨_, y0, y1, y2⟩ := (hL.ext hx.box).cell hfr
      obtain ⟨d0, d1, l0⟩ := HBX.out _ hx
      have hsp := HSR.out j
      have hwj := HWR.out j hlt
      have e9 : ((List.range (j + 1)).map SR).map (Value.int .i32) = ((List.range j).map SR).map (Value.int .i32) ++ [.int .i32 (SR j)] := by rw [List.range_succ]; simp
      have HE9 := Lib.hid e9
      clear e9
      by_cases hjf : j = fr
      · have gi : ((j : Int) != (fr : Int)) = false := by rw [hjf]; simp
        rw [if_neg (fun h => h.1 hjf)] at hsp
        rw [hsp] at hwj
        have HS := Lib.hid hsp
        clear hsp hjf
        go_wp2_with (at_builtin; go_loud (refine wpList_append_own _ rfl _ _ 41 rfl (w.heap.size + 1) 21 i0 (.int .i32 0) 1 4 Tryd.underlying41 hi hz0 hz1 hz2 rfl (by decide) (.slice op j oc) j _ rfl (ownsRow_ext hown ((Ext.refl _).alloc _)) ⟨wr.heap.size, 0, none⟩ 1 1 [.int .i32 (la L j).rune] rfl rfl (one_cell _ _ _) (by simp [Value.oneCell']) (by unfold maxLen; omega) (by omega) (by simp; omega) ?_); intro v' w4 hown4 hgrow _)
        obtain ⟨op', oc', hv'⟩ := ownsRow_slice hown4
        subst hv'
        exact ⟨⟨j + 1, op', oc', by omega, by go_num, rfl, Ext.append (hx.alloc _) (ownsRow_ext hown ((Ext.refl _).alloc _)) hgrow (by rw [size_alloc]; exact Nat.le_refl _), by rw [HE9.out, HS.out]; exact hown4⟩, by simp [intOf]; omega⟩
      · have gi : ((j : Int) != (fr : Int)) = true := by rw [bne_iff_ne]; omega
        have hof := HOF.out j hlt
        cases hB : ofB (la L j) p
        · rw [if_neg (fun h => by rw [hB] at h; cases h.2)] at hsp
          rw [hB] at hof
          have HS := Lib.hid hsp
          have HO := Lib.hid hof
          clear hsp hjf hof hB
          go_wp2_with (first | (go_at_call 42; refine (HO.out _).mono ?_; rintro e w5 ⟨rfl, hx5⟩; have hs5 := hx5.le) | (at_builtin; go_loud (refine wpList_append_own _ rfl _ _ 41 rfl (w.heap.size + 1) 21 i0 (.int .i32 0) 1 4 Tryd.underlying41 hi hz0 hz1 hz2 rfl (by decide) (.slice op j oc) j _ rfl (ownsRow_ext (ownsRow_ext hown hx5) ((Ext.refl _).alloc _)) ⟨w5.heap.size, 0, none⟩ 1 1 [.int .i32 (la L j).rune] rfl rfl (one_cell _ _ _) (by simp [Value.oneCell']) (by unfold maxLen; omega) (by omega) (by simp; omega) ?_); intro v' w4 hown4 hgrow _))
          obtain ⟨op', oc', hv'⟩ := ownsRow_slice hown4
          subst hv'
          exact ⟨⟨j + 1, op', oc', by omega, by go_num, rfl, Ext.append ((hx.trans hx5).alloc _) (ownsRow_ext (ownsRow_ext hown hx5) ((Ext.refl _).alloc _)) hgrow (by rw [size_alloc]; exact Nat.le_refl _), by rw [HE9.out, HS.out]; exact hown4⟩, by simp [intOf]; omega⟩
        · rw [if_pos ⟨hjf, hB⟩] at hsp
          rw [hB] at hof
          have HS := Lib.hid hsp
          have HO := Lib.hid hof
          have HT := Lib.hid (HTA.out j hlt)
          clear hsp hjf hof hB
          go_wp2_with (go_at_call 42; refine (HO.out _).mono ?_; rintro e w5 ⟨rfl, hx5⟩)
          obtain ⟨_, c0, c1, c2⟩ := (hL.ext (hx.trans hx5).box).cell hlt
          obtain ⟨_, y0, y1, y2⟩ := (hL.ext (hx.trans hx5).box).cell hfr
          obtain ⟨d0, d1, l0⟩ := HBX.out _ (hx.trans hx5)
          (refine wp_region_ext (by kernel_rfl) (by kernel_rfl) ?_; intro ι hι g hg; have q_d0 := hg.cell d0; have q_d1 := hg.cell d1; have q_c0 := hg.cell c0; have q_c1 := hg.cell c1; have q_c2 := hg.cell c2; have q_y0 := hg.cell y0; have q_y1 := hg.cell y1; have q_y2 := hg.cell y2; clear d0 d1 c0 c1 c2 y0 y1 y2; (repeat (go_big_quiet_step ((go_at_call 45; exact hg.call (HT.out _ ((hx.trans hx5).box.trans (hg.ext _))))))); refine wpQuiet_nil ?_; rintro w8 ⟨i2, rfl⟩; have hq := hg.ext i2; generalize g i2 = w8 at hq ⊢; clear q_d0 q_d1 q_c0 q_c1 q_c2 q_y0 q_y1 q_y2 i2 hg g hι ι)
          have hs5 := hx5.le
          have hs8 := hq.le
          obtain ⟨T, hT⟩ : ∃ T, takR A (la L j) (la L fr) k = T := ⟨_, rfl⟩
          rw [hT] at HS ⊢
          go_wp2_with (at_builtin; go_loud (refine wpList_append_own _ rfl _ _ 41 rfl (w.heap.size + 1) 21 i0 (.int .i32 0) 1 4 Tryd.underlying41 hi hz0 hz1 hz2 rfl (by decide) (.slice op j oc) j _ rfl (ownsRow_ext (ownsRow_ext (ownsRow_ext hown hx5) hq) ((Ext.refl _).alloc _)) ⟨w8.heap.size, 0, none⟩ 1 1 [.int .i32 T] rfl rfl (one_cell _ _ _) (by simp [Value.oneCell']) (by unfold maxLen; omega) (by omega) (by simp; omega) ?_); intro v' w4 hown4 hgrow _)
          obtain ⟨op', oc', hv'⟩ := ownsRow_slice hown4
          subst hv'
          exact ⟨⟨j + 1, op', oc', by omega, by go_num, rfl, Ext.append (((hx.trans hx5).trans hq).alloc _) (ownsRow_ext (ownsRow_ext (ownsRow_ext hown hx5) hq) ((Ext.refl _).alloc _)) hgrow (by rw [size_alloc]; exact Nat.le_refl _), by rw [HE9.out, HS.out]; exact hown4⟩, by simp [intOf]; omega⟩
    · have e : j = L.length := by omega
      subst e
      have hOR : OwnRunes 21 (w.heap.size + 1) wr op oc ((List.range L.length).map SR) := ⟨by simpa using hown, by simp; omega, fun i hi => by
        have hi' : i < L.length := by simpa using hi
        rw [rn_eq hi]
        simpa using HWR.out i hi'⟩
      have hcv := hOR.at_.text (P := Tryd.prog) (src := 41) (dst := 9) Tryd.underlying41 Tryd.underlying21 Tryd.underlying9 oc
      rw [List.length_map, List.length_range] at hcv
      clear hOR hown
      go_wp2_with fail
      go_ret
      exact ⟨rfl, hx.box⟩

end Go.Proofs.YtcnjgfadihimiaaDoor

namespace Go.Cg
open Go.RowKit Go.Lib
theorem downs_mem {n k x : Nat} (h : x ∈ downs n k) : ∃ j, j < k ∧ x = n - 1 - j := by
  unfold downs at h
  obtain ⟨j, hj, e⟩ := List.mem_map.1 h
  exact ⟨j, List.mem_range.1 hj, e.symm⟩
theorem lastI_at {L : List Letter} {p i : Nat} (hi : i < L.length) (h0 : ∀ j, i < j → j < L.length → ofB (la L j) p = false) (h1 : ofB (la L i) p = true) : lastI L p = some i := by
  obtain ⟨r, hr⟩ := downs_prefix (n := L.length) (k := L.length - 1 - i + 1) (by omega)
  unfold lastI
  rw [hr, downs_succ, show L.length - 1 - (L.length - 1 - i) = i by omega]
  refine List.find?_eq_some_iff_append.2 ⟨h1, downs L.length (L.length - 1 - i), r, by simp, fun x hx => ?_⟩
  obtain ⟨j, hj, rfl⟩ := downs_mem hx
  rw [h0 _ (by omega) (by omega)]; rfl
theorem lastI_no {L : List Letter} {p : Nat} (h0 : ∀ j, j < L.length → ofB (la L j) p = false) : lastI L p = none := by
  unfold lastI
  refine List.find?_eq_none.2 fun x hx => ?_
  obtain ⟨j, hj, rfl⟩ := downs_mem hx
  rw [h0 _ (by omega)]; decide
end Go.Cg
namespace Go.Proofs.YtcnjgfadihimiaaDoor
open Go.RowKit Go.Cg Go.Shelf Go.Maps

set_option maxRecDepth 100000 in
set_option maxHeartbeats 4000000 in
theorem Spread14_any (fp lp : Option Addr) (fc lc : Nat) (A : Alpha) (s : ByteArray) (hs : s.size ≤ 140737488351232) (p k : Nat) (hp : p < 4294967296) (hk : k < 4294967296) (w : World) (hA : AlphaAt w fp lp A) (hTb : Tabs w) :
    Calls Tryd.prog 18 #[.agg #[.slice fp A.feats.length fc, .slice lp A.lets.length lc], .string s, .int .u32 p, .int .u32 k] w fun e w' => e = .returned (.tuple #[.string (sprS A s p k), .int .i64 (signE A s [p, k])]) ∧ Ext w w' := by
  have hx3 : Ext w (w.alloc (.cells #[.slice fp A.feats.length fc, .slice lp A.lets.length lc] 26)) := (Ext.refl _).alloc _
  have HBX := Lib.hid (fun W (hW : Ext (w.alloc (.cells #[.slice fp A.feats.length fc, .slice lp A.lets.length lc] 26)) W) => (⟨hW.cell0 0, hW.cell0 1, hW.lt0⟩ : W.cell? ⟨w.heap.size, 0, none⟩ = some (.slice fp A.feats.length fc) ∧ W.cell? ⟨w.heap.size, 1, none⟩ = some (.slice lp A.lets.length lc) ∧ w.heap.size < W.heap.size))
  have hsg := letters14_any fp lp (some ⟨(w.alloc (.cells #[.slice fp A.feats.length fc, .slice lp A.lets.length lc] 26)).heap.size, 0, none⟩) fc lc 2 A s hs [p, k] (by simp) ((w.alloc (.cells #[.slice fp A.feats.length fc, .slice lp A.lets.length lc] 26)).alloc (.cells #[.int .u32 (p : Int), .int .u32 (k : Int)] 32)) (hA.mono (hx3.alloc _)) (masks_two hp hk) (hTb.ext (hx3.alloc _))
  rw [size_alloc] at hsg
  have hS : sprS A s p k = if signE A s [p, k] = 0 then fromS A s p k (firstI (sgn A s) p) else ⟨#[]⟩ := rfl
  rw [hS]
  by_cases h0 : signE A s [p, k] = 0
  · rw [if_pos h0, h0]
    have hl0 := (signE_zero h0).1
    have h64 := sgn_len hl0
    have hwf := sgn_wf hA hl0
    have hfa := fun i hi h1 h2 => firstI_at (L := sgn A s) (p := p) (i := i) hi h1 h2
    have hfn := fun h1 => firstI_none (L := sgn A s) (p := p) h1
    have hfs := fun i => (show fromS A s p k (some i) = runesBytes (sprL A (sgn A s) p k i) from rfl)
    have hfs0 : fromS A s p k none = s := rfl
    have HSG := Lib.hid (hsg.mono fun e w' h => (⟨h.1 h0, h.2.2⟩ : _ ∧ Ext _ w'))
    have hok := (ltr_ok hl0).1
    have hfrA := sgn_fromA hl0
    have HOF := Lib.hid (fun i (hi : i < (sgn A s).length) W => (show Calls Tryd.prog 42 #[.agg #[.int .i32 (la (sgn A s) i).rune, .int .u32 ((la (sgn A s) i).plus : Int), .int .u32 ((la (sgn A s) i).minus : Int)], .int .u32 p, .int .u32 0] W fun e W' => e = .returned (.bool (ofB (la (sgn A s) i) p)) ∧ Ext W W' from by rw [← likeB_zero]; exact Like_any _ _ _ p 0 (hwf i hi).2.2.1 (hwf i hi).2.2.2 hp (by decide) W))
    obtain ⟨L, hL⟩ : ∃ L, sgn A s = L := ⟨_, rfl⟩
    rw [hL] at h64 hwf hfa hfn hfs HSG HOF hfrA ⊢
    obtain ⟨O, hO⟩ : ∃ O, firstI L p = O := ⟨_, rfl⟩
    rw [hO] at hfa hfn ⊢
    have HSP := Lib.hid (fun xp xc i (hi : i < L.length) W (hW : Ext w W) (hLR : LetsAt W xp L) => spread14_any fp lp xp fc lc xc A hok L hfrA p k i hp hk hi h64 W (hA.mono hW) hLR)
    have HFA := Lib.hid hfa
    have HFN := Lib.hid hfn
    have HFS := Lib.hid hfs
    have HFS0 := Lib.hid hfs0
    clear hsg hS h0 hl0 hwf hfa hfn hfs hfs0 hL hO hok hfrA
    go_enter Tryd.func18, Tryd.ntmps18
    go_wp2_with fail
    refine HSG.out.mono ?_
    rintro e w1 ⟨⟨xp, xc, rfl, hLR⟩, hx1⟩
    have hxb : Ext (w.alloc (.cells #[.slice fp A.feats.length fc, .slice lp A.lets.length lc] 26)) w1 := ((Ext.refl _).alloc _).trans hx1
    have hxw := hx3.trans hxb
    clear hx1
    go_wp2_with fail
    go_loopw [12] (fun i wr => ∃ j : Nat, j ≤ L.length ∧ i = .int .i64 j ∧ Ext w1 wr ∧ Hid (∀ t, t < j → ofB (la L t) p = false)) (fun i _ => L.length - (intOf i).toNat)
    case atStart => exact ⟨0, Nat.zero_le _, rfl, Ext.refl _, fun t ht => by omega⟩
    case round =>
      obtain ⟨j, hj, rfl, hx, HZ⟩ := hrel
      by_cases hlt : j < L.length
      · obtain ⟨b, off, rfl, hbw, c0, c1, c2⟩ := (hLR.ext hx).cells hlt
        have hof := HOF.out j hlt
        cases hB : ofB (la L j) p
        · rw [hB] at hof
          have HO := Lib.hid hof
          have HB := Lib.hid hB
          clear hof hB
          go_wp2_with (go_at_call 42; refine (HO.out _).mono ?_; rintro e w5 ⟨rfl, hx5⟩)
          exact ⟨⟨j + 1, by omega, by go_num, hx.trans hx5, upto_succ HZ.out HB.out⟩, by simp [intOf]; omega⟩
        · rw [hB] at hof
          have he := HFA.out j hlt HZ.out hB
          subst he
          have HO := Lib.hid hof
          clear hof hB
          go_wp2_with (go_at_call 42; refine (HO.out _).mono ?_; rintro e w5 ⟨rfl, hx5⟩; obtain ⟨d0, d1, l0⟩ := HBX.out _ (hxb.trans (hx.trans hx5)))
          refine (HSP.out _ xc j hlt _ (hxw.trans (hx.trans hx5)) (hLR.ext (hx.trans hx5))).mono ?_
          rintro e w6 ⟨rfl, hx6⟩
          go_wp2_with fail
          go_ret2
          exact ⟨by rw [HFS.out]; rfl, (hxw.trans (hx.trans hx5)).trans hx6⟩
      · have e : j = L.length := by omega
        subst e
        have he := HFN.out HZ.out
        subst he
        go_wp2_with fail
        go_ret2
        exact ⟨by rw [HFS0.out]; rfl, hxw.trans hx⟩
  · rw [if_neg h0]
    have HSG := Lib.hid (hsg.mono fun e w' h => (⟨h.2.1 h0, h.2.2⟩ : _ ∧ Ext _ w'))
    have gE : (signE A s [p, k] != 0) = true := by rw [bne_iff_ne]; exact h0
    clear hsg hS h0
    go_enter Tryd.func18, Tryd.ntmps18
    go_wp2_with fail
    refine HSG.out.mono ?_
    rintro e w1 ⟨rfl, hx1⟩
    go_wp2_with fail
    go_ret2
    exact ⟨rfl, (hx3.alloc _).trans hx1⟩

set_option maxRecDepth 100000 in
set_option maxHeartbeats 4000000 in
theorem Back14_any (fp lp : Option Addr) (fc lc : Nat) (A : Alpha) (s : ByteArray) (hs : s.size ≤ 140737488351232) (p k : Nat) (hp : p < 4294967296) (hk : k < 4294967296) (w : World) (hA : AlphaAt w fp lp A) (hTb : Tabs w) :
    Calls Tryd.prog 19 #[.agg #[.slice fp A.feats.length fc, .slice lp A.lets.length lc], .string s, .int .u32 p, .int .u32 k] w fun e w' => e = .returned (.tuple #[.string (backS A s p k), .int .i64 (signE A s [p, k])]) ∧ Ext w w' := by
  have hx3 : Ext w (w.alloc (.cells #[.slice fp A.feats.length fc, .slice lp A.lets.length lc] 26)) := (Ext.refl _).alloc _
  have HBX := Lib.hid (fun W (hW : Ext (w.alloc (.cells #[.slice fp A.feats.length fc, .slice lp A.lets.length lc] 26)) W) => (⟨hW.cell0 0, hW.cell0 1, hW.lt0⟩ : W.cell? ⟨w.heap.size, 0, none⟩ = some (.slice fp A.feats.length fc) ∧ W.cell? ⟨w.heap.size, 1, none⟩ = some (.slice lp A.lets.length lc) ∧ w.heap.size < W.heap.size))
  have hsg := letters14_any fp lp (some ⟨(w.alloc (.cells #[.slice fp A.feats.length fc, .slice lp A.lets.length lc] 26)).heap.size, 0, none⟩) fc lc 2 A s hs [p, k] (by simp) ((w.alloc (.cells #[.slice fp A.feats.length fc, .slice lp A.lets.length lc] 26)).alloc (.cells #[.int .u32 (p : Int), .int .u32 (k : Int)] 32)) (hA.mono (hx3.alloc _)) (masks_two hp hk) (hTb.ext (hx3.alloc _))
  rw [size_alloc] at hsg
  have hS : backS A s p k = if signE A s [p, k] = 0 then fromS A s p k (lastI (sgn A s) p) else ⟨#[]⟩ := rfl
  rw [hS]
  by_cases h0 : signE A s [p, k] = 0
  · rw [if_pos h0, h0]
    have hl0 := (signE_zero h0).1
    have h64 := sgn_len hl0
    have hwf := sgn_wf hA hl0
    have hfa := fun i hi h1 h2 => lastI_at (L := sgn A s) (p := p) (i := i) hi h1 h2
    have hfn := fun h1 => lastI_no (L := sgn A s) (p := p) h1
    have hfs := fun i => (show fromS A s p k (some i) = runesBytes (sprL A (sgn A s) p k i) from rfl)
    have hfs0 : fromS A s p k none = s := rfl
    have HSG := Lib.hid (hsg.mono fun e w' h => (⟨h.1 h0, h.2.2⟩ : _ ∧ Ext _ w'))
    have hok := (ltr_ok hl0).1
    have hfrA := sgn_fromA hl0
    have HOF := Lib.hid (fun i (hi : i < (sgn A s).length) W => (show Calls Tryd.prog 42 #[.agg #[.int .i32 (la (sgn A s) i).rune, .int .u32 ((la (sgn A s) i).plus : Int), .int .u32 ((la (sgn A s) i).minus : Int)], .int .u32 p, .int .u32 0] W fun e W' => e = .returned (.bool (ofB (la (sgn A s) i) p)) ∧ Ext W W' from by rw [← likeB_zero]; exact Like_any _ _ _ p 0 (hwf i hi).2.2.1 (hwf i hi).2.2.2 hp (by decide) W))
    obtain ⟨L, hL⟩ : ∃ L, sgn A s = L := ⟨_, rfl⟩
    rw [hL] at h64 hwf hfa hfn hfs HSG HOF hfrA ⊢
    obtain ⟨O, hO⟩ : ∃ O, lastI L p = O := ⟨_, rfl⟩
    rw [hO] at hfa hfn ⊢
    have HSP := Lib.hid (fun xp xc i (hi : i < L.length) W (hW : Ext w W) (hLR : LetsAt W xp L) => spread14_any fp lp xp fc lc xc A hok L hfrA p k i hp hk hi h64 W (hA.mono hW) hLR)
    have HFA := Lib.hid hfa
    have HFN := Lib.hid hfn
    have HFS := Lib.hid hfs
    have HFS0 := Lib.hid hfs0
    clear hsg hS h0 hl0 hwf hfa hfn hfs hfs0 hL hO hok hfrA
    go_enter Tryd.func19, Tryd.ntmps19
    go_wp2_with fail
    refine HSG.out.mono ?_
    rintro e w1 ⟨⟨xp, xc, rfl, hLR⟩, hx1⟩
    have hxb : Ext (w.alloc (.cells #[.slice fp A.feats.length fc, .slice lp A.lets.length lc] 26)) w1 := ((Ext.refl _).alloc _).trans hx1
    have hxw := hx3.trans hxb
    clear hx1
    go_wp2_with fail
    go_loopw [12] (fun i wr => ∃ r : Nat, r ≤ L.length ∧ i = .int .i64 ((r : Int) - 1) ∧ Ext w1 wr ∧ Hid (∀ t, r ≤ t → t < L.length → ofB (la L t) p = false)) (fun i _ => (intOf i + 1).toNat)
    case atStart => exact ⟨L.length, Nat.le_refl _, rfl, Ext.refl _, fun t ht h2 => by omega⟩
    case round =>
      obtain ⟨r, hr, rfl, hx, HZ⟩ := hrel
      cases r with
      | succ j =>
        have hlt : j < L.length := by omega
        have hcast : ((j + 1 : Nat) : Int) - 1 = (j : Int) := by omega
        rw [hcast]
        clear hcast
        obtain ⟨b, off, rfl, hbw, c0, c1, c2⟩ := (hLR.ext hx).cells hlt
        have hof := HOF.out j hlt
        cases hB : ofB (la L j) p
        · rw [hB] at hof
          have HO := Lib.hid hof
          have HB := Lib.hid hB
          clear hof hB
          go_wp2_with (go_at_call 42; refine (HO.out _).mono ?_; rintro e w5 ⟨rfl, hx5⟩)
          refine ⟨⟨j, by omega, by first | rfl | go_num, hx.trans hx5, fun t h1 h2 => ?_⟩, by simp [intOf]⟩
          by_cases e : t = j
          · subst e; exact HB.out
          · exact HZ.out t (by omega) h2
        · rw [hB] at hof
          have he := HFA.out j hlt (fun t h1 h2 => HZ.out t (by omega) h2) hB
          subst he
          have HO := Lib.hid hof
          clear hof hB
          go_wp2_with (go_at_call 42; refine (HO.out _).mono ?_; rintro e w5 ⟨rfl, hx5⟩; obtain ⟨d0, d1, l0⟩ := HBX.out _ (hxb.trans (hx.trans hx5)))
          refine (HSP.out _ xc j hlt _ (hxw.trans (hx.trans hx5)) (hLR.ext (hx.trans hx5))).mono ?_
          rintro e w6 ⟨rfl, hx6⟩
          go_wp2_with fail
          go_ret2
          exact ⟨by rw [HFS.out]; rfl, (hxw.trans (hx.trans hx5)).trans hx6⟩
      | zero =>
        have he := HFN.out (fun t ht => HZ.out t (by omega) ht)
        subst he
        have hcast : ((0 : Nat) : Int) - 1 = -1 := rfl
        rw [hcast]
        clear hcast
        go_wp2_with fail
        go_ret2
        exact ⟨by rw [HFS0.out]; rfl, hxw.trans hx⟩
  · rw [if_neg h0]
    have HSG := Lib.hid (hsg.mono fun e w' h => (⟨h.2.1 h0, h.2.2⟩ : _ ∧ Ext _ w'))
    have gE : (signE A s [p, k] != 0) = true := by rw [bne_iff_ne]; exact h0
    clear hsg hS h0
    go_enter Tryd.func19, Tryd.ntmps19
    go_wp2_with fail
    refine HSG.out.mono ?_
    rintro e w1 ⟨rfl, hx1⟩
    go_wp2_with fail
    go_ret2
    exact ⟨rfl, (hx3.alloc _).trans hx1⟩

end Go.Proofs.YtcnjgfadihimiaaDoor

namespace Go.Cg
open Go.RowKit Go.Lib
/-- are two letters alike in a mask? -/
def al2 (x y : Letter) (k : Nat) : Bool := decide (x.plus &&& k = y.plus &&& k ∧ x.minus &&& k = y.minus &&& k)
theorem xor_and_zero (a b k : Nat) : (a ^^^ b) &&& k = 0 ↔ a &&& k = b &&& k := by
  rw [Nat.and_xor_distrib_right]
  constructor
  · intro h
    apply Nat.eq_of_testBit_eq
    intro i
    have := congrArg (fun x => x.testBit i) h
    simp only [Nat.testBit_xor, Nat.zero_testBit] at this
    revert this
    cases (a &&& k).testBit i <;> cases (b &&& k).testBit i <;> simp
  · intro h; rw [h, Nat.xor_self]
theorem alikeB_al2 (x y : Letter) (k : Nat) : alikeB x y k = al2 x y k := by
  unfold alikeB al2
  exact decide_eq_decide.2 (by rw [xor_and_zero, xor_and_zero])
theorem al2_trans {x y z : Letter} {k : Nat} (h : al2 x y k = true) (h2 : al2 z y k = true) : al2 x z k = true := by
  unfold al2 at *
  rw [decide_eq_true_eq] at *
  exact ⟨h.1.trans h2.1.symm, h.2.trans h2.2.symm⟩
theorem al2_symm {x y : Letter} {k : Nat} (h : al2 x y k = true) : al2 y x k = true := by
  unfold al2 at *
  rw [decide_eq_true_eq] at *
  exact ⟨h.1.symm, h.2.symm⟩
theorem al2_refl (x : Letter) (k : Nat) : al2 x x k = true := by unfold al2; simp
/-- two letters of a class that are not alike -/
def badB (L : List Letter) (p k t u : Nat) : Bool := ofB (la L t) p && (ofB (la L u) p && !al2 (la L t) (la L u) k)
theorem mem_cls {L : List Letter} {p : Nat} {x : Letter} : x ∈ clsL L p ↔ ∃ t, t < L.length ∧ la L t = x ∧ ofB x p = true := by
  unfold clsL
  rw [List.mem_filter]
  constructor
  · rintro ⟨h1, h2⟩
    obtain ⟨t, ht, e⟩ := List.getElem_of_mem h1
    exact ⟨t, ht, by rw [la_eq ht]; exact e, by simpa using h2⟩
  · rintro ⟨t, ht, e, h2⟩
    exact ⟨by rw [← e, la_eq ht]; exact List.getElem_mem ht, by simpa using h2⟩
theorem keepL_iff (L : List Letter) (p k : Nat) : keepL L p k = true ↔ ∀ x ∈ clsL L p, al2 x (la (clsL L p) 0) k = true := by
  unfold keepL
  rcases idxL_cases (fun x => !alikeB x (la (clsL L p) 0) k) (clsL L p) with ⟨h1, h2⟩ | ⟨i, h1, h2, h3, _⟩
  · rw [h1]
    refine ⟨fun _ x hx => ?_, fun _ => by decide⟩
    obtain ⟨j, hj, e⟩ := List.getElem_of_mem hx
    have := h2 j hj
    rw [la_eq hj, e, alikeB_al2] at this
    simpa using this
  · rw [h1]
    have h4 : (0 : Int) ≤ (i : Int) := by omega
    simp only [decide_eq_true h4, Bool.not_true, Bool.false_eq_true, false_iff]
    intro h
    have := h _ (List.getElem_mem h2)
    rw [← la_eq h2, ← alikeB_al2] at this
    rw [this] at h3; cases h3
theorem keepL_all {L : List Letter} {p k : Nat} (h : ∀ t, t < L.length → ∀ u, u < t → badB L p k t u = false) : keepL L p k = true := by
  rw [keepL_iff]
  intro x hx
  cases hc : clsL L p with
  | nil => rw [hc] at hx; cases hx
  | cons y r =>
    have hy : y ∈ clsL L p := by rw [hc]; exact List.mem_cons_self
    have e0 : la (y :: r) 0 = y := rfl
    rw [e0]
    obtain ⟨t, ht, e1, h1⟩ := mem_cls.1 hx
    obtain ⟨u, hu, e2, h2⟩ := mem_cls.1 hy
    subst e1 e2
    rcases Nat.lt_trichotomy t u with h3 | h3 | h3
    · have := h u hu t h3
      unfold badB at this
      rw [h1, h2] at this
      exact al2_symm (by simpa using this)
    · subst h3; exact al2_refl _ _
    · have := h t ht u h3
      unfold badB at this
      rw [h1, h2] at this
      simpa using this
theorem keepL_bad {L : List Letter} {p k t u : Nat} (ht : t < L.length) (hu : u < t) (h : badB L p k t u = true) : keepL L p k = false := by
  unfold badB at h
  simp only [Bool.and_eq_true, Bool.not_eq_true'] at h
  obtain ⟨h1, h2, h3⟩ := h
  rw [← Bool.not_eq_true, keepL_iff]
  intro hc
  have a := hc _ (mem_cls.2 ⟨t, ht, rfl, h1⟩)
  have b := hc _ (mem_cls.2 ⟨u, by omega, rfl, h2⟩)
  rw [al2_trans a b] at h3; cases h3
theorem nxtR_step {L : List Letter} {c q : Nat} (hq : q < L.length) : nxtR L c (L.length - q) = if ofB (la L q) c = true then some q else nxtR L c (L.length - (q + 1)) := by
  obtain ⟨r, hr⟩ : ∃ r, L.length - q = r + 1 := ⟨L.length - q - 1, by omega⟩
  rw [hr, show L.length - (q + 1) = r by omega]
  have e : nxtR L c (r + 1) = if ofB (la L (L.length - 1 - r)) c = true then some (L.length - 1 - r) else nxtR L c r := rfl
  rw [e, show L.length - 1 - r = q by omega]
theorem nxtR_stop {L : List Letter} {c : Nat} : nxtR L c (L.length - L.length) = none := by rw [Nat.sub_self]; rfl
end Go.Cg
namespace Go.Proofs.YtcnjgfadihimiaaDoor
open Go.RowKit Go.Cg Go.Shelf Go.Maps

set_option maxRecDepth 100000 in
set_option maxHeartbeats 8000000 in
theorem Keeps14_any (fp lp : Option Addr) (fc lc : Nat) (A : Alpha) (s : ByteArray) (hs : s.size ≤ 140737488351232) (p k : Nat) (hp : p < 4294967296) (hk : k < 4294967296) (w : World) (hA : AlphaAt w fp lp A) (hTb : Tabs w) :
    Calls Tryd.prog 20 #[.agg #[.slice fp A.feats.length fc, .slice lp A.lets.length lc], .string s, .int .u32 p, .int .u32 k] w fun e w' => e = .returned (.tuple #[.bool (keepsB A s p k), .int .i64 (signE A s [p, k])]) ∧ Ext w w' := by
  have hx3 : Ext w (w.alloc (.cells #[.slice fp A.feats.length fc, .slice lp A.lets.length lc] 26)) := (Ext.refl _).alloc _
  have hsg := letters14_any fp lp (some ⟨(w.alloc (.cells #[.slice fp A.feats.length fc, .slice lp A.lets.length lc] 26)).heap.size, 0, none⟩) fc lc 2 A s hs [p, k] (by simp) ((w.alloc (.cells #[.slice fp A.feats.length fc, .slice lp A.lets.length lc] 26)).alloc (.cells #[.int .u32 (p : Int), .int .u32 (k : Int)] 32)) (hA.mono (hx3.alloc _)) (masks_two hp hk) (hTb.ext (hx3.alloc _))
  rw [size_alloc] at hsg
  have hS : keepsB A s p k = if signE A s [p, k] = 0 then keepL (sgn A s) p k else false := rfl
  rw [hS]
  by_cases h0 : signE A s [p, k] = 0
  · rw [if_pos h0, h0]
    have hl0 := (signE_zero h0).1
    have h64 := sgn_len hl0
    have hwf := sgn_wf hA hl0
    have HSG := Lib.hid (hsg.mono fun e w' h => (⟨h.1 h0, h.2.2⟩ : _ ∧ Ext _ w'))
    obtain ⟨L, hL⟩ : ∃ L, sgn A s = L := ⟨_, rfl⟩
    rw [hL] at h64 hwf HSG ⊢
    have HOF := Lib.hid (fun i (hi : i < L.length) W b (hb : ofB (la L i) p = b) => (show Calls Tryd.prog 42 #[.agg #[.int .i32 (la L i).rune, .int .u32 ((la L i).plus : Int), .int .u32 ((la L i).minus : Int)], .int .u32 p, .int .u32 0] W fun e W' => e = .returned (.bool b) ∧ Ext W W' from by rw [← hb, ← likeB_zero]; exact Like_any _ _ _ p 0 (hwf i hi).2.2.1 (hwf i hi).2.2.2 hp (by decide) W))
    have HAL := Lib.hid (fun i (hi : i < L.length) j (hj : j < L.length) b (hb : al2 (la L i) (la L j) k = b) W => (show Calls Tryd.prog 44 #[.agg #[.int .i32 (la L i).rune, .int .u32 ((la L i).plus : Int), .int .u32 ((la L i).minus : Int)], .agg #[.int .i32 (la L j).rune, .int .u32 ((la L j).plus : Int), .int .u32 ((la L j).minus : Int)], .int .u32 k] W fun e W' => e = .returned (.bool b) ∧ Ext W W' from by rw [← hb]; exact Alike14_any _ _ _ _ _ _ k (hwf i hi).2.2.1 (hwf i hi).2.2.2 (hwf j hj).2.2.1 (hwf j hj).2.2.2 hk W))
    have HT := Lib.hid (fun h => keepL_all (L := L) (p := p) (k := k) h)
    have HF := Lib.hid (fun t u ht hu h => keepL_bad (L := L) (p := p) (k := k) (t := t) (u := u) ht hu h)
    have HBB := Lib.hid (fun t u => (show badB L p k t u = (ofB (la L t) p && (ofB (la L u) p && !al2 (la L t) (la L u) k)) from rfl))
    obtain ⟨KB, hKB⟩ : ∃ KB, keepL L p k = KB := ⟨_, rfl⟩
    rw [hKB] at HT HF ⊢
    obtain ⟨bad, hbad⟩ : ∃ bad, badB L p k = bad := ⟨_, rfl⟩
    rw [hbad] at HT HF HBB
    clear hsg hS h0 hl0 hwf hL hKB hbad
    go_enter Tryd.func20, Tryd.ntmps20
    go_wp2_with fail
    refine HSG.out.mono ?_
    rintro e w1 ⟨⟨xp, xc, rfl, hLR⟩, hx1⟩
    have hxw := hx3.trans (((Ext.refl _).alloc _).trans hx1)
    clear hx1
    go_wp2_with fail
    go_loopw [12, 13] (fun i _ wr => ∃ t : Nat, t ≤ L.length ∧ i = .int .i64 t ∧ Ext w1 wr ∧ Hid (∀ x, x < t → ∀ y, y < x → bad x y = false)) (fun i _ _ => L.length - (intOf i).toNat)
    case atStart => exact ⟨0, Nat.zero_le _, rfl, Ext.refl _, fun x hx => by omega⟩
    case round =>
      obtain ⟨t, ht, rfl, hx, HZ⟩ := hrel
      by_cases hlt : t < L.length
      · have HXX := Lib.hid hx
        clear hx
        go_wp2_with fail
        go_loopw [13] (fun j wr => ∃ u : Nat, u ≤ t ∧ j = .int .i64 u ∧ Ext w1 wr ∧ Hid (∀ y, y < u → bad t y = false)) (fun j _ => t - (intOf j).toNat)
        case atStart => exact ⟨0, Nat.zero_le _, rfl, HXX.out, fun y hy => by omega⟩
        case round =>
          obtain ⟨u, hu, rfl, hy, HY⟩ := hrel
          by_cases hut : u < t
          · obtain ⟨b, off, rfl, hbw, c0, c1, c2⟩ := (hLR.ext hy).cells hlt
            have hul : u < L.length := by omega
            obtain ⟨_, y0, y1, y2⟩ := (hLR.ext hy).cell hul
            have hbb := HBB.out t u
            go_wp2_with fail
            cases B1 : ofB (la L t) p
            · rw [B1, Bool.false_and] at hbb
              have HB := Lib.hid hbb
              have HO := Lib.hid (fun W => HOF.out t hlt W _ B1)
              clear hbb B1
              (refine wp_region_ext (by kernel_rfl) (by kernel_rfl) ?_; intro ι hι g hg; have q_c0 := hg.cell c0; have q_c1 := hg.cell c1; have q_c2 := hg.cell c2; clear c0 c1 c2; (repeat (go_big_quiet_step ((go_at_call 42; exact hg.call (HO.out _))))); refine wpQuiet_nil ?_; rintro w8 ⟨i2, rfl⟩; have hq := hg.ext i2; generalize g i2 = w8 at hq ⊢; clear q_c0 q_c1 q_c2 i2 hg g hι ι)
              go_wp2_with fail
              exact ⟨⟨u + 1, by omega, by go_num, hy.trans hq, upto_succ HY.out HB.out⟩, by simp [intOf]; omega⟩
            · cases B2 : ofB (la L u) p
              · rw [B1, B2, Bool.false_and, Bool.true_and] at hbb
                have HB := Lib.hid hbb
                have HB1 := Lib.hid B1
                have HB2 := Lib.hid B2
                have HBX := Lib.hid (fun W (i : Nat) (hi : i < L.length) b hb => HOF.out i hi W b hb)
                have HO1 := Lib.hid (fun W => HOF.out t hlt W _ HB1.out)
                have HO2 := Lib.hid (fun W => HOF.out u hul W _ HB2.out)
                clear hbb B1 B2
                (refine wp_region_ext (by kernel_rfl) (by kernel_rfl) ?_; intro ι hι g hg; have q_c0 := hg.cell c0; have q_c1 := hg.cell c1; have q_c2 := hg.cell c2; have q_y0 := hg.cell y0; have q_y1 := hg.cell y1; have q_y2 := hg.cell y2; clear c0 c1 c2 y0 y1 y2; (repeat (go_big_quiet_step ((go_at_call 42; (first | (with_reducible exact hg.call (HO1.out _)) | (with_reducible exact hg.call (HO2.out _))))))); refine wpQuiet_nil ?_; rintro w8 ⟨i2, rfl⟩; have hq := hg.ext i2; generalize g i2 = w8 at hq ⊢; clear q_c0 q_c1 q_c2 q_y0 q_y1 q_y2 i2 hg g hι ι)
                go_wp2_with fail
                exact ⟨⟨u + 1, by omega, by go_num, hy.trans hq, upto_succ HY.out HB.out⟩, by simp [intOf]; omega⟩
              · have HO1 := Lib.hid (fun W => HOF.out t hlt W _ B1)
                have HO2 := Lib.hid (fun W => HOF.out u hul W _ B2)
                cases B3 : al2 (la L t) (la L u) k
                · rw [B1, B2, B3] at hbb
                  have he := HF.out t u hlt hut hbb
                  subst he
                  have HO3 := Lib.hid (fun W => HAL.out t hlt u hul _ B3 W)
                  clear hbb B1 B2 B3
                  (refine wp_region_ext (by kernel_rfl) (by kernel_rfl) ?_; intro ι hι g hg; have q_c0 := hg.cell c0; have q_c1 := hg.cell c1; have q_c2 := hg.cell c2; have q_y0 := hg.cell y0; have q_y1 := hg.cell y1; have q_y2 := hg.cell y2; clear c0 c1 c2 y0 y1 y2; (repeat (go_big_quiet_step ((first | (go_at_call 42; (first | (with_reducible exact hg.call (HO1.out _)) | (with_reducible exact hg.call (HO2.out _)))) | (go_at_call 44; exact hg.call (HO3.out _)))))); refine wpQuiet_nil ?_; rintro w8 ⟨i2, rfl⟩; have hq := hg.ext i2; generalize g i2 = w8 at hq ⊢; clear q_c0 q_c1 q_c2 q_y0 q_y1 q_y2 i2 hg g hι ι)
                  go_wp2_with fail
                  go_ret2
                  exact ⟨rfl, hxw.trans (hy.trans hq)⟩
                · rw [B1, B2, B3] at hbb
                  have HB := Lib.hid hbb
                  have HO3 := Lib.hid (fun W => HAL.out t hlt u hul _ B3 W)
                  clear hbb B1 B2 B3
                  (refine wp_region_ext (by kernel_rfl) (by kernel_rfl) ?_; intro ι hι g hg; have q_c0 := hg.cell c0; have q_c1 := hg.cell c1; have q_c2 := hg.cell c2; have q_y0 := hg.cell y0; have q_y1 := hg.cell y1; have q_y2 := hg.cell y2; clear c0 c1 c2 y0 y1 y2; (repeat (go_big_quiet_step ((first | (go_at_call 42; (first | (with_reducible exact hg.call (HO1.out _)) | (with_reducible exact hg.call (HO2.out _)))) | (go_at_call 44; exact hg.call (HO3.out _)))))); refine wpQuiet_nil ?_; rintro w8 ⟨i2, rfl⟩; have hq := hg.ext i2; generalize g i2 = w8 at hq ⊢; clear q_c0 q_c1 q_c2 q_y0 q_y1 q_y2 i2 hg g hι ι)
                  go_wp2_with fail
                  exact ⟨⟨u + 1, by omega, by go_num, hy.trans hq, upto_succ HY.out HB.out⟩, by simp [intOf]; omega⟩
          · have e : u = t := by omega
            subst e
            go_wp2_with fail
            exact ⟨⟨u + 1, by omega, by go_num, hy, fun x h1 y h2 => by
              by_cases e : x = u
              · subst e; exact HY.out y h2
              · exact HZ.out x (by omega) y h2⟩, by simp [intOf]; omega⟩
      · have e : t = L.length := by omega
        subst e
        have he := HT.out HZ.out
        subst he
        go_wp2_with fail
        go_ret2
        exact ⟨rfl, hxw.trans hx⟩
  · rw [if_neg h0]
    have HSG := Lib.hid (hsg.mono fun e w' h => (⟨h.2.1 h0, h.2.2⟩ : _ ∧ Ext _ w'))
    have gE : (signE A s [p, k] != 0) = true := by rw [bne_iff_ne]; exact h0
    clear hsg hS h0
    go_enter Tryd.func20, Tryd.ntmps20
    go_wp2_with fail
    refine HSG.out.mono ?_
    rintro e w1 ⟨rfl, hx1⟩
    go_wp2_with fail
    go_ret2
    exact ⟨rfl, (hx3.alloc _).trans hx1⟩

set_option maxRecDepth 100000 in
set_option maxHeartbeats 8000000 in
theorem Meet14_any (fp lp : Option Addr) (fc lc : Nat) (A : Alpha) (s : ByteArray) (hs : s.size ≤ 140737488351232) (p c k : Nat) (hp : p < 4294967296) (hc : c < 4294967296) (hk : k < 4294967296) (w : World) (hA : AlphaAt w fp lp A) (hTb : Tabs w) :
    Calls Tryd.prog 21 #[.agg #[.slice fp A.feats.length fc, .slice lp A.lets.length lc], .string s, .int .u32 p, .int .u32 c, .int .u32 k] w fun e w' => e = .returned (.tuple #[.string (meetS A s p c k), .int .i64 (signE A s [p, c, k])]) ∧ Ext w w' := by
  have hx3 : Ext w (w.alloc (.cells #[.slice fp A.feats.length fc, .slice lp A.lets.length lc] 26)) := (Ext.refl _).alloc _
  have HBX := Lib.hid (fun W (hW : Ext (w.alloc (.cells #[.slice fp A.feats.length fc, .slice lp A.lets.length lc] 26)) W) => (⟨hW.cell0 0, hW.cell0 1, hW.lt0⟩ : W.cell? ⟨w.heap.size, 0, none⟩ = some (.slice fp A.feats.length fc) ∧ W.cell? ⟨w.heap.size, 1, none⟩ = some (.slice lp A.lets.length lc) ∧ w.heap.size < W.heap.size))
  have hsg := letters14_any fp lp (some ⟨(w.alloc (.cells #[.slice fp A.feats.length fc, .slice lp A.lets.length lc] 26)).heap.size, 0, none⟩) fc lc 3 A s hs [p, c, k] (by simp) ((w.alloc (.cells #[.slice fp A.feats.length fc, .slice lp A.lets.length lc] 26)).alloc (.cells #[.int .u32 (p : Int), .int .u32 (c : Int), .int .u32 (k : Int)] 32)) (hA.mono (hx3.alloc _)) (masks_three hp hc hk) (hTb.ext (hx3.alloc _))
  rw [size_alloc] at hsg
  have hS : meetS A s p c k = if signE A s [p, c, k] = 0 then runesBytes (metL A (sgn A s) p c k) else ⟨#[]⟩ := rfl
  rw [hS]
  by_cases h0 : signE A s [p, c, k] = 0
  · rw [if_pos h0, h0]
    have hl0 := (signE_zero h0).1
    have h64 := sgn_len hl0
    have hwf := sgn_wf hA hl0
    have HSG := Lib.hid (hsg.mono fun e w' h => (⟨h.1 h0, h.2.2⟩ : _ ∧ Ext _ w'))
    have hok := (ltr_ok hl0).1
    have hfr0 := sgn_fromA hl0
    obtain ⟨L, hL⟩ : ∃ L, sgn A s = L := ⟨_, rfl⟩
    rw [hL] at h64 hwf HSG hfr0 ⊢
    have HOF := Lib.hid (fun i (hi : i < L.length) q (hq : q < 4294967296) W b (hb : ofB (la L i) q = b) => (show Calls Tryd.prog 42 #[.agg #[.int .i32 (la L i).rune, .int .u32 ((la L i).plus : Int), .int .u32 ((la L i).minus : Int)], .int .u32 q, .int .u32 0] W fun e W' => e = .returned (.bool b) ∧ Ext W W' from by rw [← hb, ← likeB_zero]; exact Like_any _ _ _ q 0 (hwf i hi).2.2.1 (hwf i hi).2.2.2 hq (by decide) W))
    have HTA := Lib.hid (fun i (hi : i < L.length) fr (hfr : fr < L.length) W (hW : Ext w W) => (by
      obtain ⟨t, ht, e⟩ := hfr0 i hi
      obtain ⟨u, hu, e2⟩ := hfr0 fr hfr
      rw [e, e2]
      exact takes14_any fp lp fc lc A hok t u ht hu k hk W (hA.mono hW) :
        Calls Tryd.prog 45 #[.agg #[.slice fp A.feats.length fc, .slice lp A.lets.length lc], .agg #[.int .i32 (la L i).rune, .int .u32 ((la L i).plus : Int), .int .u32 ((la L i).minus : Int)], .agg #[.int .i32 (la L fr).rune, .int .u32 ((la L fr).plus : Int), .int .u32 ((la L fr).minus : Int)], .int .u32 k] W fun e W' => e = .returned (.int .i32 (takR A (la L i) (la L fr) k)) ∧ Ext W W'))
    have hsr : ∀ i, metR A L p c k i = metO A L p k i (nxtR L c (L.length - (i + 1))) := fun i => by unfold metR; rw [show L.length - 1 - i = L.length - (i + 1) by omega]
    have hwr : ∀ i, i < L.length → -2147483648 ≤ metR A L p c k i ∧ metR A L p c k i ≤ 2147483647 := fun i hi => metR_range hA hwf p c k hi
    have hml : metL A L p c k = (List.range L.length).map (metR A L p c k) := rfl
    rw [hml]
    have HST := Lib.hid (fun q (hq : q < L.length) => nxtR_step (L := L) (c := c) hq)
    have HSP := Lib.hid (nxtR_stop (L := L) (c := c))
    have HMO := Lib.hid (fun i j => (show metO A L p k i (some j) = if ofB (la L i) p = true then takR A (la L i) (la L j) k else (la L i).rune from rfl))
    have HMN := Lib.hid (fun i => (show metO A L p k i none = (la L i).rune from rfl))
    obtain ⟨MO, hMO⟩ : ∃ MO, metO A L p k = MO := ⟨_, rfl⟩
    obtain ⟨NX, hNX⟩ : ∃ NX, nxtR L c = NX := ⟨_, rfl⟩
    rw [hMO, hNX] at hsr
    rw [hMO] at HMO HMN
    rw [hNX] at HST HSP
    obtain ⟨SR, hSR0⟩ : ∃ SR, metR A L p c k = SR := ⟨_, rfl⟩
    rw [hSR0] at hsr hwr ⊢
    have HSR := Lib.hid hsr
    have HWR := Lib.hid hwr
    have hLwf := Lib.hid hwf
    obtain ⟨i0, hi, hz0, hz1, hz2⟩ := info_parts infoRu
    clear hsg hS h0 hl0 hwf hL hok hfr0 hsr hwr hml hMO hNX hSR0
    go_enter Tryd.func21, Tryd.ntmps21
    go_wp2_with fail
    refine HSG.out.mono ?_
    rintro e w1 ⟨⟨xp, xc, rfl, hLR⟩, hx1⟩
    have hxb : Ext (w.alloc (.cells #[.slice fp A.feats.length fc, .slice lp A.lets.length lc] 26)) w1 := ((Ext.refl _).alloc _).trans hx1
    have hxw := hx3.trans hxb
    clear hx1
    go_wp2_with fail
    go_loopw [14, 15, 16, 17] (fun o i _ _ wr => ∃ (j : Nat) (op : Option Addr) (oc : Nat), j ≤ L.length ∧ i = .int .i64 j ∧ o = .slice op j oc ∧ Ext w1 wr ∧ wr.ownsRow w1.heap.size 21 1 (.slice op j oc) j (((List.range j).map SR).map (Value.int .i32))) (fun _ i _ _ _ => L.length - (intOf i).toNat)
    case atStart => exact ⟨0, none, 0, Nat.zero_le _, rfl, rfl, Ext.refl _, World.ownsRow_nil _ _ _ _⟩
    case round =>
      obtain ⟨j, op, oc, hj, rfl, rfl, hx, hown⟩ := hrel
      by_cases hlt : j < L.length
      · obtain ⟨b, off, rfl, hbw, c0, c1, c2⟩ := (hLR.ext hx).cells hlt
        have hsr := HSR.out j
        have hwj := HWR.out j hlt
        have e9 : ((List.range (j + 1)).map SR).map (Value.int .i32) = ((List.range j).map SR).map (Value.int .i32) ++ [.int .i32 (SR j)] := by rw [List.range_succ]; simp
        have HE9 := Lib.hid e9
        have HXX := Lib.hid hx
        have HOW := Lib.hid hown
        have HSRj := Lib.hid hsr
        have HWJ := Lib.hid hwj
        clear e9 hx hown hsr hwj
        go_wp2_with fail
        go_loopw [17] (fun nx wq => ∃ q : Nat, j < q ∧ q ≤ L.length ∧ nx = .int .i64 q ∧ Ext w1 wq ∧ Hid (NX (L.length - (j + 1)) = NX (L.length - q)) ∧ Hid (wq.ownsRow w1.heap.size 21 1 (.slice op j oc) j (((List.range j).map SR).map (Value.int .i32)))) (fun nx _ => L.length - (intOf nx).toNat)
        case atStart => exact ⟨j + 1, by omega, by omega, by go_num, HXX.out, rfl, HOW.out⟩
        case round =>
          obtain ⟨q, hjq, hq, rfl, hy, HN, HOQ⟩ := hrel
          by_cases hql : q < L.length
          · obtain ⟨_, y0, y1, y2⟩ := (hLR.ext hy).cell hql
            have hst := HST.out q hql
            cases hC : ofB (la L q) c
            · rw [hC, if_neg (by decide)] at hst
              have HS := Lib.hid hst
              have HO := Lib.hid (fun W => HOF.out q hql c hc W _ hC)
              clear hst hC
              go_wp2_with (go_at_call 42; refine (HO.out _).mono ?_; rintro e w5 ⟨rfl, hx5⟩)
              exact ⟨⟨q + 1, by omega, by omega, by go_num, hy.trans hx5, HN.out.trans HS.out, ownsRow_ext HOQ.out hx5⟩, by simp [intOf]; omega⟩
            · rw [hC, if_pos rfl] at hst
              have HO := Lib.hid (fun W => HOF.out q hql c hc W _ hC)
              have hs2 : SR j = MO j (some q) := by rw [HSRj.out, HN.out, hst]
              rw [HMO.out] at hs2
              cases hB : ofB (la L j) p
              · rw [hB, if_neg (by decide)] at hs2
                have hwj := HWJ.out
                rw [hs2] at hwj
                have HS := Lib.hid hs2
                have HO2 := Lib.hid (fun W => HOF.out j hlt p hp W _ hB)
                clear hst hC hs2 hB
                go_wp2_with fail
                refine (HO.out _).mono ?_
                rintro e w5 ⟨rfl, hx5⟩
                obtain ⟨_, c0, c1, c2⟩ := (hLR.ext (hy.trans hx5)).cell hlt
                go_wp2_with fail
                refine (HO2.out _).mono ?_
                rintro e w6 ⟨rfl, hx6⟩
                have hs5 := hx5.le
                have hs6 := hx6.le
                have hs7 := hy.le
                go_wp2_with (at_builtin; go_loud (refine wpList_append_own _ rfl _ _ 41 rfl w1.heap.size 21 i0 (.int .i32 0) 1 4 Tryd.underlying41 hi hz0 hz1 hz2 rfl (by decide) (.slice op j oc) j _ rfl (ownsRow_ext (ownsRow_ext (ownsRow_ext HOQ.out hx5) hx6) ((Ext.refl _).alloc _)) ⟨w6.heap.size, 0, none⟩ 1 1 [.int .i32 (la L j).rune] rfl rfl (one_cell _ _ _) (by simp [Value.oneCell']) (by unfold maxLen; omega) (by omega) (by simp; omega) ?_); intro v' w4 hown4 hgrow _)
                obtain ⟨op', oc', hv'⟩ := ownsRow_slice hown4
                subst hv'
                exact ⟨⟨j + 1, op', oc', by omega, by go_num, rfl, Ext.append (((hy.trans hx5).trans hx6).alloc _) (ownsRow_ext (ownsRow_ext (ownsRow_ext HOQ.out hx5) hx6) ((Ext.refl _).alloc _)) hgrow (Nat.le_refl _), by rw [HE9.out, HS.out]; exact hown4⟩, by simp [intOf]; omega⟩
              · rw [hB, if_pos rfl] at hs2
                have hwj := HWJ.out
                rw [hs2] at hwj
                have HS := Lib.hid hs2
                have HO2 := Lib.hid (fun W => HOF.out j hlt p hp W _ hB)
                have HT := Lib.hid (HTA.out j hlt q hql)
                clear hst hC hs2 hB
                go_wp2_with fail
                refine (HO.out _).mono ?_
                rintro e w5 ⟨rfl, hx5⟩
                obtain ⟨_, c0, c1, c2⟩ := (hLR.ext (hy.trans hx5)).cell hlt
                go_wp2_with fail
                refine (HO2.out _).mono ?_
                rintro e w6 ⟨rfl, hx6⟩
                obtain ⟨_, c0, c1, c2⟩ := (hLR.ext ((hy.trans hx5).trans hx6)).cell hlt
                obtain ⟨_, y0, y1, y2⟩ := (hLR.ext ((hy.trans hx5).trans hx6)).cell hql
                obtain ⟨d0, d1, l0⟩ := HBX.out _ (hxb.trans ((hy.trans hx5).trans hx6))
                go_wp2_with fail
                (refine wp_region_ext (by kernel_rfl) (by kernel_rfl) ?_; intro ι hι g hg; have q_d0 := hg.cell d0; have q_d1 := hg.cell d1; have q_c0 := hg.cell c0; have q_c1 := hg.cell c1; have q_c2 := hg.cell c2; have q_y0 := hg.cell y0; have q_y1 := hg.cell y1; have q_y2 := hg.cell y2; clear d0 d1 c0 c1 c2 y0 y1 y2; (repeat (go_big_quiet_step ((go_at_call 45; exact hg.call (HT.out _ ((hxw.trans ((hy.trans hx5).trans hx6)).trans (hg.ext _))))))); refine wpQuiet_nil ?_; rintro w8 ⟨i2, rfl⟩; have hq8 := hg.ext i2; generalize g i2 = w8 at hq8 ⊢; clear q_d0 q_d1 q_c0 q_c1 q_c2 q_y0 q_y1 q_y2 i2 hg g hι ι)
                have hs5 := hx5.le
                have hs6 := hx6.le
                have hs7 := hy.le
                have hs8 := hq8.le
                obtain ⟨T, hT⟩ : ∃ T, takR A (la L j) (la L q) k = T := ⟨_, rfl⟩
                rw [hT] at HS ⊢
                go_wp2_with (at_builtin; go_loud (refine wpList_append_own _ rfl _ _ 41 rfl w1.heap.size 21 i0 (.int .i32 0) 1 4 Tryd.underlying41 hi hz0 hz1 hz2 rfl (by decide) (.slice op j oc) j _ rfl (ownsRow_ext (ownsRow_ext (ownsRow_ext (ownsRow_ext HOQ.out hx5) hx6) hq8) ((Ext.refl _).alloc _)) ⟨w8.heap.size, 0, none⟩ 1 1 [.int .i32 T] rfl rfl (one_cell _ _ _) (by simp [Value.oneCell']) (by unfold maxLen; omega) (by omega) (by simp; omega) ?_); intro v' w4 hown4 hgrow _)
                obtain ⟨op', oc', hv'⟩ := ownsRow_slice hown4
                subst hv'
                exact ⟨⟨j + 1, op', oc', by omega, by go_num, rfl, Ext.append ((((hy.trans hx5).trans hx6).trans hq8).alloc _) (ownsRow_ext (ownsRow_ext (ownsRow_ext (ownsRow_ext HOQ.out hx5) hx6) hq8) ((Ext.refl _).alloc _)) hgrow (Nat.le_refl _), by rw [HE9.out, HS.out]; exact hown4⟩, by simp [intOf]; omega⟩
          · have e : q = L.length := by omega
            subst e
            have hs2 : SR j = MO j none := by rw [HSRj.out, HN.out, HSP.out]
            rw [HMN.out] at hs2
            have hwj := HWJ.out
            rw [hs2] at hwj
            have HS := Lib.hid hs2
            have hs7 := hy.le
            clear hs2
            go_wp2_with (at_builtin; go_loud (refine wpList_append_own _ rfl _ _ 41 rfl w1.heap.size 21 i0 (.int .i32 0) 1 4 Tryd.underlying41 hi hz0 hz1 hz2 rfl (by decide) (.slice op j oc) j _ rfl (ownsRow_ext HOQ.out ((Ext.refl _).alloc _)) ⟨wr.heap.size, 0, none⟩ 1 1 [.int .i32 (la L j).rune] rfl rfl (one_cell _ _ _) (by simp [Value.oneCell']) (by unfold maxLen; omega) (by omega) (by simp; omega) ?_); intro v' w4 hown4 hgrow _)
            obtain ⟨op', oc', hv'⟩ := ownsRow_slice hown4
            subst hv'
            exact ⟨⟨j + 1, op', oc', by omega, by go_num, rfl, Ext.append (hy.alloc _) (ownsRow_ext HOQ.out ((Ext.refl _).alloc _)) hgrow (Nat.le_refl _), by rw [HE9.out, HS.out]; exact hown4⟩, by simp [intOf]; omega⟩
      · have e : j = L.length := by omega
        subst e
        have hOR : OwnRunes 21 w1.heap.size wr op oc ((List.range L.length).map SR) := ⟨by simpa using hown, by simp; omega, fun i hi => by
          have hi' : i < L.length := by simpa using hi
          rw [rn_eq hi]
          simpa using HWR.out i hi'⟩
        have hcv := hOR.at_.text (P := Tryd.prog) (src := 41) (dst := 9) Tryd.underlying41 Tryd.underlying21 Tryd.underlying9 oc
        rw [List.length_map, List.length_range] at hcv
        clear hOR hown
        go_wp2_with fail
        go_ret2
        exact ⟨rfl, hxw.trans hx⟩
  · rw [if_neg h0]
    have HSG := Lib.hid (hsg.mono fun e w' h => (⟨h.2.1 h0, h.2.2⟩ : _ ∧ Ext _ w'))
    have gE : (signE A s [p, c, k] != 0) = true := by rw [bne_iff_ne]; exact h0
    clear hsg hS h0
    go_enter Tryd.func21, Tryd.ntmps21
    go_wp2_with fail
    refine HSG.out.mono ?_
    rintro e w1 ⟨rfl, hx1⟩
    go_wp2_with fail
    go_ret2
    exact ⟨rfl, (hx3.alloc _).trans hx1⟩

end Go.Proofs.YtcnjgfadihimiaaDoor

namespace Go.Cg
open Go.RowKit Go.Lib Go.Maps
theorem ltrE_nil (A : Alpha) : ltrE A ⟨#[]⟩ = if A.Ok then 0 else 7 := by
  unfold ltrE spell
  split
  · rw [spellFrom_end _ _ _ _ _ (by decide)]
  · rfl
theorem signE_nil (A : Alpha) (p k : Nat) : signE A ⟨#[]⟩ [p, k] = setsE A p k := by
  unfold signE setsE
  rw [ltrE_nil]
  split
  · rw [if_neg (by decide)]
  · rw [if_pos (by decide)]
/-- a part's cells -/
theorem PartsAt.elem {w : World} {B : Nat} {To Ti : TypeId} {v : Value} {vs : List Value} {ls : List (List Int)} (h : PartsAt w B To Ti v vs ls) {i : Nat} (hi : i < ls.length) (hn : 0 < (pl ls i).length) :
    ∃ b c, pv vs i = .slice (some ⟨b, 0, none⟩) (pl ls i).length c ∧ B ≤ b ∧ b < w.heap.size ∧ ∀ t, t < (pl ls i).length → w.cell? ⟨b, t, none⟩ = some (.int .i32 (rn (pl ls i) t)) := by
  have hr := h.row i hi
  rcases hr.2 with ⟨_, h0⟩ | ⟨g, cap, cur, hv, hb, hg, _⟩
  · omega
  · refine ⟨g, cap, hv, hb, (Array.getElem?_eq_some_iff.1 hg).1, fun t ht => ?_⟩
    rw [hv] at hr
    rw [hr.cellAt t (by omega), List.getElem?_map, List.getElem?_eq_getElem ht, rn_eq ht]
    rfl
theorem setsTo_from (A : Alpha) (p k : Nat) : ∀ j, j ≤ A.lets.length → ∀ q ∈ setsTo A p k j, ∀ l ∈ q, ∃ t, t < A.lets.length ∧ l = A.at_ t
  | 0, _, q, hq, _, _ => by cases hq
  | j + 1, hj, q, hq, l, hl => by
    have ih := setsTo_from A p k j (by omega)
    unfold setsTo at hq
    split at hq
    · unfold addP at hq
      split at hq
      · rename_i i hi
        have hlt := findP_lt hi
        rcases List.mem_or_eq_of_mem_set hq with h | h
        · exact ih q h l hl
        · subst h
          rcases List.mem_append.1 hl with h2 | h2
          · rw [List.getD_eq_getElem?_getD, List.getElem?_eq_getElem hlt] at h2
            exact ih _ (List.getElem_mem hlt) l h2
          · simp at h2; exact ⟨j, by omega, h2⟩
      · rcases List.mem_append.1 hq with h | h
        · exact ih q h l hl
        · simp at h; subst h
          simp at hl; exact ⟨j, by omega, hl⟩
    · exact ih q hq l hl
theorem part_head (A : Alpha) (p k : Nat) {j u : Nat} (hj : j ≤ A.lets.length) (hu : u < (setsTo A p k j).length) :
    0 < (pl (runesP (setsTo A p k j)) u).length ∧ ∃ t, t < A.lets.length ∧ hdL ((setsTo A p k j).getD u []) = A.at_ t ∧ rn (pl (runesP (setsTo A p k j)) u) 0 = (A.at_ t).rune := by
  have hm : (setsTo A p k j).getD u [] ∈ setsTo A p k j := by
    rw [List.getD_eq_getElem?_getD, List.getElem?_eq_getElem hu]; exact List.getElem_mem hu
  obtain ⟨h1, _⟩ := (setsTo_good A p k j).1 _ hm
  have h2 := setsTo_from A p k j hj _ hm
  rw [pl_runes]
  cases hq : (setsTo A p k j).getD u [] with
  | nil => exact absurd hq h1
  | cons a r =>
    rw [hq] at h2
    obtain ⟨t, ht, e⟩ := h2 a List.mem_cons_self
    refine ⟨by simp, t, ht, e, ?_⟩
    rw [← e]; rfl
theorem findP_at {k : Nat} {ps : List (List Letter)} {key : Nat × Nat} {u : Nat} (hu : u < ps.length) (h0 : ∀ t, t < u → decide (mkey (hdL (ps.getD t [])) k = key) = false) (h1 : decide (mkey (hdL (ps.getD u [])) k = key) = true) : findP k ps key = some u := by
  unfold findP
  rw [List.findIdx?_eq_some_iff_getElem]
  have e : ∀ t (ht : t < ps.length), ps.getD t [] = ps[t] := fun t ht => by rw [List.getD_eq_getElem?_getD, List.getElem?_eq_getElem ht]; rfl
  refine ⟨hu, by rw [← e u hu]; exact h1, fun t ht => ?_⟩
  rw [← e t (by omega), h0 t ht]; decide
theorem findP_none {k : Nat} {ps : List (List Letter)} {key : Nat × Nat} (h0 : ∀ t, t < ps.length → decide (mkey (hdL (ps.getD t [])) k = key) = false) : findP k ps key = none := by
  unfold findP
  rw [List.findIdx?_eq_none_iff]
  intro q hq
  obtain ⟨t, ht, e⟩ := List.getElem_of_mem hq
  have := h0 t ht
  rw [List.getD_eq_getElem?_getD, List.getElem?_eq_getElem ht] at this
  rw [← e]; exact this
theorem al2_key (x y : Letter) (k : Nat) : al2 x y k = decide (mkey x k = mkey y k) := by
  unfold al2 mkey
  exact decide_eq_decide.2 (by rw [Prod.mk.injEq])
end Go.Cg
namespace Go.Proofs.YtcnjgfadihimiaaDoor
open Go.RowKit Go.Cg Go.Shelf Go.Maps

set_option maxRecDepth 100000 in
set_option maxHeartbeats 8000000 in
theorem Sets14_any (fp lp : Option Addr) (fc lc : Nat) (A : Alpha) (p k : Nat) (hp : p < 4294967296) (hk : k < 4294967296) (w : World) (hA : AlphaAt w fp lp A) (hTb : Tabs w) :
    Calls Tryd.prog 22 #[.agg #[.slice fp A.feats.length fc, .slice lp A.lets.length lc], .int .u32 p, .int .u32 k] w fun e w' => ∃ v vs, e = .returned (.tuple #[v, .int .i64 (setsE A p k)]) ∧ PartsAt w' w.heap.size 41 21 v vs (setsL A p k) ∧ Ext w w' := by
  have hx3 : Ext w (w.alloc (.cells #[.slice fp A.feats.length fc, .slice lp A.lets.length lc] 26)) := (Ext.refl _).alloc _
  have HBX := Lib.hid (fun W (hW : Ext (w.alloc (.cells #[.slice fp A.feats.length fc, .slice lp A.lets.length lc] 26)) W) => (⟨hW.cell0 0, hW.cell0 1, hW.lt0⟩ : W.cell? ⟨w.heap.size, 0, none⟩ = some (.slice fp A.feats.length fc) ∧ W.cell? ⟨w.heap.size, 1, none⟩ = some (.slice lp A.lets.length lc) ∧ w.heap.size < W.heap.size))
  have hsg := letters14_any fp lp (some ⟨(w.alloc (.cells #[.slice fp A.feats.length fc, .slice lp A.lets.length lc] 26)).heap.size, 0, none⟩) fc lc 2 A ⟨#[]⟩ (by decide) [p, k] (by simp) ((w.alloc (.cells #[.slice fp A.feats.length fc, .slice lp A.lets.length lc] 26)).alloc (.cells #[.int .u32 (p : Int), .int .u32 (k : Int)] 32)) (hA.mono (hx3.alloc _)) (masks_two hp hk) (hTb.ext (hx3.alloc _))
  rw [size_alloc, signE_nil] at hsg
  by_cases h0 : setsE A p k = 0
  · rw [show setsL A p k = runesP (setsTo A p k A.lets.length) from if_pos h0, h0]
    have HSG := Lib.hid (hsg.mono fun e w' h => (⟨by obtain ⟨p, c, h1, _⟩ := h.1 h0; exact ⟨p, _, c, h1⟩, h.2.2⟩ : (∃ p n c, e = .returned (.tuple #[.slice p n c, .int .i64 0])) ∧ Ext _ w'))
    have hok : A.Ok := by
      by_cases h : A.Ok
      · exact h
      · unfold setsE at h0; rw [if_neg h] at h0; cases h0
    have h128 := hok.2.2.1
    have HFA := Lib.hid (fun t (ht : t < A.lets.length) => find_at hok ht)
    have HFI := Lib.hid (fun t (ht : t < A.lets.length) W (hW : Ext w W) => (by have := Find_any fp lp fc lc A (A.at_ t).rune W (hA.mono hW); rw [find_at hok ht] at this; exact this : Calls Tryd.prog 46 #[.agg #[.slice fp A.feats.length fc, .slice lp A.lets.length lc], .int .i32 (A.at_ t).rune] W fun e W' => e = .returned (.int .i64 (t : Int)) ∧ Ext W W'))
    have HTO := Lib.hid (fun j => (show setsTo A p k (j + 1) = if ofB (A.at_ j) p = true then addP k (setsTo A p k j) (A.at_ j) else setsTo A p k j from rfl))
    have HGD := Lib.hid (fun j => setsTo_good A p k j)
    have HPL := Lib.hid (fun j i hi => pl_len_le A p k j i hi)
    have HHD := Lib.hid (fun j u hj hu => part_head A p k (j := j) (u := u) hj hu)
    have HOF := Lib.hid (fun i (hl : (A.at_ i).wf) W => (show Calls Tryd.prog 42 #[.agg #[.int .i32 (A.at_ i).rune, .int .u32 ((A.at_ i).plus : Int), .int .u32 ((A.at_ i).minus : Int)], .int .u32 p, .int .u32 0] W fun e W' => e = .returned (.bool (ofB (A.at_ i) p)) ∧ Ext W W' from by rw [← likeB_zero]; exact Like_any _ _ _ p 0 hl.2.2.1 hl.2.2.2 hp (by decide) W))
    have HAL := Lib.hid (fun i (hi : (A.at_ i).wf) j (hj : (A.at_ j).wf) b (hb : al2 (A.at_ i) (A.at_ j) k = b) W => (show Calls Tryd.prog 44 #[.agg #[.int .i32 (A.at_ i).rune, .int .u32 ((A.at_ i).plus : Int), .int .u32 ((A.at_ i).minus : Int)], .agg #[.int .i32 (A.at_ j).rune, .int .u32 ((A.at_ j).plus : Int), .int .u32 ((A.at_ j).minus : Int)], .int .u32 k] W fun e W' => e = .returned (.bool b) ∧ Ext W W' from by rw [← hb]; exact Alike14_any _ _ _ _ _ _ k hi.2.2.1 hi.2.2.2 hj.2.2.1 hj.2.2.2 hk W))
    obtain ⟨St, hSt⟩ : ∃ St, setsTo A p k = St := ⟨_, rfl⟩
    rw [hSt] at HTO HGD HPL HHD ⊢
    have HS0 := Lib.hid (show St 0 = [] from by rw [← hSt]; rfl)
    obtain ⟨ir, hir, hr0, hr1, hr2⟩ := info_parts infoRu
    obtain ⟨iw, hiw, hw0, hw1, hw2⟩ := info_parts infoRw
    clear hsg h0 hok hSt
    go_enter Tryd.func22, Tryd.ntmps22
    go_wp2_with fail
    refine HSG.out.mono ?_
    rintro e w1 ⟨⟨xp, xn, xc, rfl⟩, hx1⟩
    have hxb : Ext (w.alloc (.cells #[.slice fp A.feats.length fc, .slice lp A.lets.length lc] 26)) w1 := ((Ext.refl _).alloc _).trans hx1
    have hxw := hx3.trans hxb
    have hlb := hA.lbig
    have hsw2 := hxw.le
    clear hx1 HSG
    go_wp2_with fail
    go_loopw [10, 11, 13] (fun o i _ wr => ∃ (j : Nat) (vs : List Value), j ≤ A.lets.length ∧ i = .int .i64 j ∧ Ext w1 wr ∧ PartsAt wr w1.heap.size 41 21 o vs (runesP (St j))) (fun _ i _ _ => A.lets.length - (intOf i).toNat)
    case atStart => exact ⟨0, [], Nat.zero_le _, rfl, Ext.refl _, by rw [HS0.out]; exact PartsAt.nil _ _ _ _⟩
    case round =>
      obtain ⟨j, vs, hj, rfl, hx, hPA⟩ := hrel
      obtain ⟨d0, d1, l0⟩ := HBX.out _ (hxb.trans hx)
      by_cases hlt : j < A.lets.length
      · obtain ⟨b, off, rfl, hbw, c0, c1, c2⟩ := (hA.mono (hxw.trans hx)).cells hlt
        have hwf := hA.wf j hlt
        have hof := HOF.out j hwf
        have hto := HTO.out j
        cases hB : ofB (A.at_ j) p
        · rw [hB] at hof
          rw [if_neg (fun h => by rw [hB] at h; cases h)] at hto
          have HO := Lib.hid hof
          have HT := Lib.hid hto
          clear hof hto hB hwf
          go_wp2_with (go_at_call 42; refine (HO.out _).mono ?_; rintro e w5 ⟨rfl, hx5⟩)
          have hy : Ext wr w5 := ((Ext.refl wr).alloc _).trans hx5
          exact ⟨⟨j + 1, vs, by omega, by go_num, hx.trans hy, by rw [HT.out]; exact hPA.ext hy⟩, by simp [intOf]; omega⟩
        · rw [hB] at hof
          rw [if_pos hB] at hto
          have HO := Lib.hid hof
          obtain ⟨hgd1, hgd2⟩ := HGD.out j
          have hvn : vs.length = (St j).length := by rw [hPA.len, runesP_len]
          obtain ⟨op, oc, hov⟩ := ownsRow_slice hPA.out
          subst hov
          have hvj : vs.length ≤ j := by rw [hvn]; exact hgd2
          have HVN := Lib.hid hvn
          have HPP := Lib.hid hPA
          have HWF := Lib.hid hwf
          have HTT := Lib.hid hto
          have hws := hx.le
          clear hof hto hB hwf hgd1 hgd2 hvn hPA
          go_wp2_with (go_at_call 42; refine (HO.out _).mono ?_; rintro e w5 ⟨rfl, hx5⟩; have x0 := hx5.cell0 0; have x1 := hx5.cell0 1; have x2 := hx5.cell0 2; have lx := hx5.lt0; simp only [List.getElem?_toArray, List.getElem?_cons_zero, List.getElem?_cons_succ] at x0 x1 x2)
          have hy5 : Ext wr w5 := ((Ext.refl wr).alloc _).trans hx5
          have HE5 := Lib.hid (hx.trans hy5)
          have HP5 := Lib.hid (HPP.out.ext hy5)
          have hDW := HPP.out.out.lt
          have HDW := Lib.hid hDW
          obtain ⟨s0, hs0⟩ : ∃ s0, wr.heap.size = s0 := ⟨_, rfl⟩
          rw [hs0] at x0 x1 x2 lx HDW ⊢
          have HX0 := Lib.hid x0
          have HX1 := Lib.hid x1
          have HX2 := Lib.hid x2
          have hs1 : w1.heap.size ≤ s0 := by omega
          clear hx5 hx hy5 HPP hDW hs0 c0 c1 c2 d0 d1 l0 x0 x1 x2 hws HO hbw
          go_loopw [13] (fun a wq => ∃ u : Nat, u ≤ vs.length ∧ a = .int .i64 u ∧ Ext w5 wq ∧ Hid (∀ t, t < u → decide (mkey (hdL ((St j).getD t [])) k = mkey (A.at_ j) k) = false)) (fun a _ => vs.length - (intOf a).toNat)
          case atStart => exact ⟨0, Nat.zero_le _, rfl, Ext.refl _, fun t ht => by omega⟩
          case round =>
            obtain ⟨u, hu, rfl, hy, HU⟩ := hrel
            have hyw := (hxw.trans HE5.out).trans hy
            obtain ⟨d0, d1, l0⟩ := HBX.out _ ((hxb.trans HE5.out).trans hy)
            have x0 := (hy.facts.1 s0 0 lx).trans HX0.out
            have x1 := (hy.facts.1 s0 1 lx).trans HX1.out
            have x2 := (hy.facts.1 s0 2 lx).trans HX2.out
            have lxr : s0 < wr.heap.size := Nat.lt_of_lt_of_le lx hy.le
            by_cases hul : u < vs.length
            · have hus : u < (St j).length := by rw [← HVN.out]; exact hul
              obtain ⟨hpn0, t, htl, hht, hrt⟩ := HHD.out j u hj hus
              have hu2 : u < (runesP (St j)).length := by rw [runesP_len]; exact hus
              obtain ⟨go, gc, hgo, hgb, hgl, hgc, hgf⟩ := (HP5.out.ext hy).cell hu2
              obtain ⟨pb, pc, hpv, hpb, hpl, hpc⟩ := (HP5.out.ext hy).elem hu2 hpn0
              have p0 := hpc 0 hpn0
              rw [hrt] at p0
              rw [hpv] at hgc
              simp only [Value.slice.injEq] at hgo
              obtain ⟨hgo1, hgo2, hgo3⟩ := hgo
              subst hgo1
              subst hgo3
              obtain ⟨_, q0, q1, q2⟩ := (hA.mono hyw).lcell htl
              have HF := Lib.hid (HFI.out t htl)
              have htz : (t : Int) < (A.lets.length : Int) := by omega
              have hwt := hA.wf t htl
              have hak := al2_key (A.at_ t) (A.at_ j) k
              rw [← hht] at hak
              obtain ⟨PN, hPN⟩ : ∃ PN, (pl (runesP (St j)) u).length = PN := ⟨_, rfl⟩
              rw [hPN] at hgc hpn0
              have HPN := Lib.hid hPN
              have hpz : (0 : Int) < (PN : Int) := by omega
              have HHT := Lib.hid hht
              cases hm : al2 (A.at_ t) (A.at_ j) k
              · rw [← hht] at hm
                rw [hm] at hak
                rw [hht] at hm
                have HK := Lib.hid hak.symm
                have HA2 := Lib.hid (fun W => HAL.out t hwt j HWF.out _ hm W)
                clear hpc hpv hPN hak hm hht hrt hgo2 hwt
                go_wp2_with fail
                (refine wp_region_ext (by kernel_rfl) (by kernel_rfl) ?_; intro ι hι g hg; have q_d0 := hg.cell d0; have q_d1 := hg.cell d1; have q_hgc := hg.cell hgc; have q_p0 := hg.cell p0; have q_q0 := hg.cell q0; have q_q1 := hg.cell q1; have q_q2 := hg.cell q2; have q_x0 := hg.cell x0; have q_x1 := hg.cell x1; have q_x2 := hg.cell x2; clear d0 d1 hgc p0 q0 q1 q2 x0 x1 x2; (repeat (go_big_quiet_step ((first | (go_at_call 46; exact hg.call (HF.out _ (hyw.trans (hg.ext _)))) | (go_at_call 44; exact hg.call (HA2.out _)))))); refine wpQuiet_nil ?_; rintro w8 ⟨i2, rfl⟩; have hq := hg.ext i2; generalize g i2 = w8 at hq ⊢; clear q_d0 q_d1 q_hgc q_p0 q_q0 q_q1 q_q2 q_x0 q_x1 q_x2 i2 hg g hι ι)
                go_wp2_with fail
                exact ⟨⟨u + 1, by omega, by go_num, hy.trans hq, upto_succ HU.out HK.out⟩, by simp [intOf]; omega⟩
              · rw [← hht] at hm
                rw [hm] at hak
                rw [hht] at hm
                have hfi := findP_at hus HU.out hak.symm
                have hro := runes_old hfi
                have hto2 : runesP (St (j + 1)) = (runesP (St j)).set u (pl (runesP (St j)) u ++ [(A.at_ j).rune]) := by rw [HTT.out, hro]
                have HT2 := Lib.hid hto2
                have HA2 := Lib.hid (fun W => HAL.out t hwt j HWF.out _ hm W)
                have hpl := HPL.out j u hu2
                have HU2 := Lib.hid hu2
                have hun : ((u : Int) == (vs.length : Int)) = false := by rw [beq_eq_false_iff_ne]; omega
                clear hpc hpv hPN hak hm hht hrt hgo2 hwt hfi hro hto2 hu2
                go_wp2_with fail
                (refine wp_region_ext (by kernel_rfl) (by kernel_rfl) ?_; intro ι hι g hg; have q_d0 := hg.cell d0; have q_d1 := hg.cell d1; have q_hgc := hg.cell hgc; have q_p0 := hg.cell p0; have q_q0 := hg.cell q0; have q_q1 := hg.cell q1; have q_q2 := hg.cell q2; have q_x0 := hg.cell x0; have q_x1 := hg.cell x1; have q_x2 := hg.cell x2; clear d0 d1 hgc p0 q0 q1 q2 x0 x1 x2; (repeat (go_big_quiet_step ((first | (go_at_call 46; exact hg.call (HF.out _ (hyw.trans (hg.ext _)))) | (go_at_call 44; exact hg.call (HA2.out _)))))); refine wpQuiet_nil ?_; rintro w8q ⟨i2, rfl⟩; have hq := hg.ext i2; generalize g i2 = w8q at hq ⊢; clear q_d0 q_d1 q_hgc q_p0 q_q0 q_q1 q_q2 q_x0 q_x1 q_x2 i2 hg g hι ι)
                go_wp2_with fail
                have hyq := hy.trans hq
                have PA := HP5.out.ext hyq
                have hX2 := HE5.out.trans hyq
                have hy0 := (hyq.facts.1 s0 0 lx).trans HX0.out
                have lX : s0 < w8q.heap.size := Nat.lt_of_lt_of_le lx hyq.le
                have hsX := hyq.le
                obtain ⟨WX, hWX⟩ : ∃ WX, w8q = WX := ⟨_, rfl⟩
                rw [hWX] at hX2 PA hy0 lX hsX ⊢
                have hi := HU2.out
                obtain ⟨LS, hLS⟩ : ∃ LS, runesP (St j) = LS := ⟨_, rfl⟩
                rw [hLS] at PA hi hpl HT2
                obtain ⟨VS, hVS⟩ : ∃ VS, vs = VS := ⟨_, rfl⟩
                rw [hVS] at PA ⊢
                obtain ⟨i, hiv⟩ : ∃ i, u = i := ⟨_, rfl⟩
                rw [hiv] at hi hpl HT2 ⊢
                have HPA7 := Lib.hid hiv
                clear hWX hLS hVS hiv hun hyq hq hy hyw l0 hgf hgl hgb
                have hcX := PA.cell hi
                obtain ⟨go', gc', ho', hgb, hgl, hgc, hgf⟩ := hcX
                obtain ⟨pp, pc, hpp⟩ := PA.part hi
                have hrw := PA.row i hi
                have hap := fun g hg => (PA.apart i hi g hg).1
                have hpn := hpl
                have hblk := PA.blk hi
                rw [hpp] at hgc hrw hap hblk
                simp only [Value.slice.injEq, Option.some.injEq, Addr.mk.injEq, and_true] at ho'
                obtain ⟨hgo', hgl', hgc'⟩ := ho'
                subst hgo'
                subst hgc'
                clear hgl'
                have hne0 : some go ≠ (Value.slice pp (pl LS i).length pc).ownBlock := fun e => hap go e.symm rfl
                have HPU := Lib.hid (fun W (hW : Ext WX W) W' g cap h1 h2 h3 => PartsAt.push (w := W) (w' := W') (x := (A.at_ j).rune) (g := g) (cap := cap) (PA.ext hW) hi h1 h2 h3)
                rw [hpp] at HPU
                have HCX := Lib.hid (fun W (hW : Ext WX W) => (hW.facts.1 go i hgl).trans hgc)
                have HFX := Lib.hid (fun W (hW : Ext WX W) => (hW.facts.2.1 go i hgl).trans hgf)
                have HNE := Lib.hid hne0
                have HRW := Lib.hid hrw
                have HBK := Lib.hid hblk
                obtain ⟨pn, hpn'⟩ : ∃ pn, pl LS i = pn := ⟨_, rfl⟩
                rw [hpn'] at HPU HCX HNE HRW HBK hpn hgc HT2
                obtain ⟨VL, hVL⟩ : ∃ VL, VS.length = VL := ⟨_, rfl⟩
                rw [hVL] at HPU ⊢
                have hiV : i < VL := by rw [← hVL, PA.len]; exact hi
                have hi0 : (0 : Int) ≤ (i : Int) := by omega
                have hi1 : (i : Int) < (VL : Int) := by omega
                have HVL := Lib.hid hVL
                clear hpp hrw hap hne0 hblk PA hpn' hVL HPA7
                go_region_law (refine step_append_lies _ rfl (.tmp 77) (.tmp 80) 41 rfl w1.heap.size 21 ir (.int .i32 0) 1 4 Tryd.underlying41 hir hr0 hr1 hr2 rfl (by decide) (.slice pp pn.length pc) pn.length (pn.map (Value.int .i32)) (by simp [Act.eval]) (ownsRow_ext HRW.out (by repeat (first | assumption | exact Ext.refl _ | refine Ext.alloc ?_ _ | refine Ext.drew ?_ | refine Ext.drewN ?_ _ | refine Ext.setCell ?_ (by first | (simp; done) | (simp; omega) | omega) _ | (refine Ext.trans ?_ (by assumption))))) ⟨WX.heap.size, 0, none⟩ 1 1 [.int .i32 (A.at_ j).rune] (by simp [Act.eval]) rfl (one_cell _ _ _) (by simp [Value.oneCell']) (by decide) (by unfold maxLen; omega) (by omega) (by simp; omega) _ rfl ?_; intro ng nc w8 hrow8 hg8 hn8 hl8; have c9 := hg8.cell (HCX.out _ (by repeat (first | assumption | exact Ext.refl _ | refine Ext.alloc ?_ _ | refine Ext.drew ?_ | refine Ext.drewN ?_ _ | refine Ext.setCell ?_ (by first | (simp; done) | (simp; omega) | omega) _ | (refine Ext.trans ?_ (by assumption))))) HNE.out; have f9 := (hg8.frozen_far ⟨go, i, none⟩ (by simp; omega) HNE.out).trans (HFX.out _ (by repeat (first | assumption | exact Ext.refl _ | refine Ext.alloc ?_ _ | refine Ext.drew ?_ | refine Ext.drewN ?_ _ | refine Ext.setCell ?_ (by first | (simp; done) | (simp; omega) | omega) _ | (refine Ext.trans ?_ (by assumption))))))
                all_goals go_wp2_with fail
                all_goals
                  refine ⟨⟨j + 1, VS.set i (.slice (some ⟨ng, 0, none⟩) (pn.length + 1) nc), by omega, by go_num, ?_, ?_⟩, by simp [intOf]; omega⟩
                  · exact (Ext.grown (hX2.trans (by repeat (first | assumption | exact Ext.refl _ | refine Ext.alloc ?_ _ | refine Ext.drew ?_ | refine Ext.drewN ?_ _ | refine Ext.setCell ?_ (by first | (simp; done) | (simp; omega) | omega) _ | (refine Ext.trans ?_ (by assumption))))) hg8 (fun q hq => (HBK.out q hq).1)).setCell (by show w1.heap.size ≤ go; omega) _
                  · rw [HT2.out]; exact HPU.out _ (by repeat (first | assumption | exact Ext.refl _ | refine Ext.alloc ?_ _ | refine Ext.drew ?_ | refine Ext.drewN ?_ _ | refine Ext.setCell ?_ (by first | (simp; done) | (simp; omega) | omega) _ | (refine Ext.trans ?_ (by assumption)))) _ _ _ hrow8 hg8 hn8
            · have e : u = vs.length := by omega
              subst e
              have hno := findP_none (k := k) (ps := St j) (key := mkey (A.at_ j) k) (fun t ht => HU.out t (by rw [HVN.out]; exact ht))
              have hro := runes_new hno
              have hrl : (runesP (St j)).length = vs.length := by rw [runesP_len, HVN.out]
              rw [hrl] at hro
              have hto2 : runesP (St (j + 1)) = ((runesP (St j)) ++ [[]]).set vs.length (pl ((runesP (St j)) ++ [[]]) vs.length ++ [(A.at_ j).rune]) := by rw [HTT.out, hro]
              have HT2 := Lib.hid hto2
              have HRL := Lib.hid hrl
              clear hno hro hrl hto2 d0 d1 l0 x0 x1 x2 lxr
              go_wp2_with fail
              (refine wp_region_ext (by kernel_rfl) (by kernel_rfl) ?_; intro ι hι g hg; (repeat (go_big_quiet_step (fail))); refine wpQuiet_nil ?_; rintro w8q ⟨i2, rfl⟩; have hq := hg.ext i2; generalize g i2 = w8q at hq ⊢; clear  i2 hg g hι ι)
              have hyq := hy.trans hq
              have HPP := Lib.hid (HP5.out.ext hyq)
              have hws := (HE5.out.trans hyq).le
              have x0 := (hyq.facts.1 s0 0 lx).trans HX0.out
              have lxr : s0 < w8q.heap.size := Nat.lt_of_lt_of_le lx hyq.le
              go_wp2_with (at_builtin; go_loud (refine wpList_append_lies _ rfl _ _ 36 rfl w1.heap.size 41 iw (.slice none 0 0) 1 24 Tryd.underlying36 hiw hw0 hw1 hw2 rfl (by decide) (.slice op vs.length oc) vs.length vs rfl (HPP.out.ext ((Ext.refl _).alloc _)).out ⟨w8q.heap.size, 0, none⟩ 1 1 [.slice none 0 0] rfl rfl (one_cell _ _ _) (by simp [Value.oneCell']) (by decide) (by unfold maxLen; omega) (by omega) (by simp; omega) _ rfl ?_); intro go gc w7 hrow7 hg7 hn7 hl7)
              have PA6 := HPP.out.ext ((Ext.refl w8q).alloc (.cells #[.slice none 0 0] 41))
              have PA := PartsAt.addNil PA6 (by rw [size_alloc]; omega) hrow7 hg7 hn7
              have hX6 : Ext w1 (w8q.alloc (.cells #[.slice none 0 0] 41)) := (HE5.out.trans hyq).alloc _
              have hX2 : Ext w1 w7 := hX6.grown hg7 (fun q hq => (PA6.out.lt q hq).1)
              have hyd := (((Ext.refl w8q).alloc (.cells #[.slice none 0 0] 41)).facts.1 s0 0 lxr).trans x0
              have hy0 := hg7.cell hyd (fun e => Nat.lt_irrefl _ (HDW.out _ e.symm).2)
              have lX : s0 < w7.heap.size := by have := hg7.size; rw [size_alloc] at this; omega
              have hsX : w5.heap.size ≤ w7.heap.size := by have := hg7.size; have h9 := hyq.le; rw [size_alloc] at this; omega
              obtain ⟨WX, hWX⟩ : ∃ WX, w7 = WX := ⟨_, rfl⟩
              rw [hWX] at hX2 PA hy0 lX hsX ⊢
              have hi : vs.length < (runesP (St j) ++ [[]]).length := by rw [List.length_append, HRL.out]; simp
              have hpl : (pl (runesP (St j) ++ [[]]) vs.length).length ≤ j := by rw [pl_app, if_pos HRL.out.symm]; exact Nat.zero_le _
              obtain ⟨LS, hLS⟩ : ∃ LS, runesP (St j) ++ [[]] = LS := ⟨_, rfl⟩
              rw [hLS] at PA hi hpl HT2
              have hVL0 : vs.length + 1 = (vs ++ [Value.slice none 0 0]).length := by simp
              obtain ⟨VS, hVS⟩ : ∃ VS, vs ++ [Value.slice none 0 0] = VS := ⟨_, rfl⟩
              rw [hVS] at PA hVL0
              rw [hVL0] at PA ⊢
              obtain ⟨i, hiv⟩ : ∃ i, vs.length = i := ⟨_, rfl⟩
              rw [hiv] at hi hpl HT2 ⊢
              have HPA7 := Lib.hid hiv
              clear hWX x0 hLS hVS hVL0 hiv HPP HRL PA6 hX6 hyd hrow7 hg7 hn7 hl7 hy hyw hq hyq
              have hcX := PA.cell hi
              obtain ⟨go', gc', ho', hgb, hgl, hgc, hgf⟩ := hcX
              obtain ⟨pp, pc, hpp⟩ := PA.part hi
              have hrw := PA.row i hi
              have hap := fun g hg => (PA.apart i hi g hg).1
              have hpn := hpl
              have hblk := PA.blk hi
              rw [hpp] at hgc hrw hap hblk
              simp only [Value.slice.injEq, Option.some.injEq, Addr.mk.injEq, and_true] at ho'
              obtain ⟨hgo', hgl', hgc'⟩ := ho'
              subst hgo'
              subst hgc'
              clear hgl'
              have hne0 : some go ≠ (Value.slice pp (pl LS i).length pc).ownBlock := fun e => hap go e.symm rfl
              have HPU := Lib.hid (fun W (hW : Ext WX W) W' g cap h1 h2 h3 => PartsAt.push (w := W) (w' := W') (x := (A.at_ j).rune) (g := g) (cap := cap) (PA.ext hW) hi h1 h2 h3)
              rw [hpp] at HPU
              have HCX := Lib.hid (fun W (hW : Ext WX W) => (hW.facts.1 go i hgl).trans hgc)
              have HFX := Lib.hid (fun W (hW : Ext WX W) => (hW.facts.2.1 go i hgl).trans hgf)
              have HNE := Lib.hid hne0
              have HRW := Lib.hid hrw
              have HBK := Lib.hid hblk
              obtain ⟨pn, hpn'⟩ : ∃ pn, pl LS i = pn := ⟨_, rfl⟩
              rw [hpn'] at HPU HCX HNE HRW HBK hpn hgc HT2
              obtain ⟨VL, hVL⟩ : ∃ VL, VS.length = VL := ⟨_, rfl⟩
              rw [hVL] at HPU ⊢
              have hiV : i < VL := by rw [← hVL, PA.len]; exact hi
              have hi0 : (0 : Int) ≤ (i : Int) := by omega
              have hi1 : (i : Int) < (VL : Int) := by omega
              have HVL := Lib.hid hVL
              clear hpp hrw hap hne0 hblk PA hpn' hVL HPA7
              go_region_law (refine step_append_lies _ rfl (.tmp 77) (.tmp 80) 41 rfl w1.heap.size 21 ir (.int .i32 0) 1 4 Tryd.underlying41 hir hr0 hr1 hr2 rfl (by decide) (.slice pp pn.length pc) pn.length (pn.map (Value.int .i32)) (by simp [Act.eval]) (ownsRow_ext HRW.out (by repeat (first | assumption | exact Ext.refl _ | refine Ext.alloc ?_ _ | refine Ext.drew ?_ | refine Ext.drewN ?_ _ | refine Ext.setCell ?_ (by first | (simp; done) | (simp; omega) | omega) _ | (refine Ext.trans ?_ (by assumption))))) ⟨WX.heap.size, 0, none⟩ 1 1 [.int .i32 (A.at_ j).rune] (by simp [Act.eval]) rfl (one_cell _ _ _) (by simp [Value.oneCell']) (by decide) (by unfold maxLen; omega) (by omega) (by simp; omega) _ rfl ?_; intro ng nc w8 hrow8 hg8 hn8 hl8; have c9 := hg8.cell (HCX.out _ (by repeat (first | assumption | exact Ext.refl _ | refine Ext.alloc ?_ _ | refine Ext.drew ?_ | refine Ext.drewN ?_ _ | refine Ext.setCell ?_ (by first | (simp; done) | (simp; omega) | omega) _ | (refine Ext.trans ?_ (by assumption))))) HNE.out; have f9 := (hg8.frozen_far ⟨go, i, none⟩ (by simp; omega) HNE.out).trans (HFX.out _ (by repeat (first | assumption | exact Ext.refl _ | refine Ext.alloc ?_ _ | refine Ext.drew ?_ | refine Ext.drewN ?_ _ | refine Ext.setCell ?_ (by first | (simp; done) | (simp; omega) | omega) _ | (refine Ext.trans ?_ (by assumption))))))
              all_goals go_wp2_with fail
              all_goals
                refine ⟨⟨j + 1, VS.set i (.slice (some ⟨ng, 0, none⟩) (pn.length + 1) nc), by omega, by go_num, ?_, ?_⟩, by simp [intOf]; omega⟩
                · exact (Ext.grown (hX2.trans (by repeat (first | assumption | exact Ext.refl _ | refine Ext.alloc ?_ _ | refine Ext.drew ?_ | refine Ext.drewN ?_ _ | refine Ext.setCell ?_ (by first | (simp; done) | (simp; omega) | omega) _ | (refine Ext.trans ?_ (by assumption))))) hg8 (fun q hq => (HBK.out q hq).1)).setCell (by show w1.heap.size ≤ go; omega) _
                · rw [HT2.out]; exact HPU.out _ (by repeat (first | assumption | exact Ext.refl _ | refine Ext.alloc ?_ _ | refine Ext.drew ?_ | refine Ext.drewN ?_ _ | refine Ext.setCell ?_ (by first | (simp; done) | (simp; omega) | omega) _ | (refine Ext.trans ?_ (by assumption)))) _ _ _ hrow8 hg8 hn8
      · have e : j = A.lets.length := by omega
        subst e
        go_wp2_with fail
        go_ret2
        exact ⟨_, vs, rfl, hPA.base (by omega), hxw.trans hx⟩
  · rw [show setsL A p k = [] from if_neg h0]
    have HSG := Lib.hid (hsg.mono fun e w' h => (⟨h.2.1 h0, h.2.2⟩ : _ ∧ Ext _ w'))
    have gE : (setsE A p k != 0) = true := by rw [bne_iff_ne]; exact h0
    clear hsg h0
    go_enter Tryd.func22, Tryd.ntmps22
    go_wp2_with fail
    refine HSG.out.mono ?_
    rintro e w1 ⟨rfl, hx1⟩
    go_wp2_with fail
    go_ret2
    exact ⟨_, [], rfl, PartsAt.nil _ _ _ _, (hx3.alloc _).trans hx1⟩

end Go.Proofs.YtcnjgfadihimiaaDoor

namespace Go.Cg
open Go.RowKit Go.Lib Go.Maps
/-- a part as a row of runes -/
theorem PartsAt.runes {w : World} {B : Nat} {To Ti : TypeId} {v : Value} {vs : List Value} {ls : List (List Int)} (h : PartsAt w B To Ti v vs ls) {i : Nat} (hi : i < ls.length) (hb : (pl ls i).length ≤ 35184372088832) (hw : ∀ t, t < (pl ls i).length → -2147483648 ≤ rn (pl ls i) t ∧ rn (pl ls i) t ≤ 2147483647) :
    ∃ p c, pv vs i = .slice p (pl ls i).length c ∧ RunesAt w p (pl ls i) := by
  obtain ⟨p, c, hv⟩ := h.part hi
  refine ⟨p, c, hv, ?_⟩
  have hr := h.row i hi
  rw [hv] at hr
  exact OwnRunes.at_ (T := Ti) (B := B) (c := c) ⟨hr, hb, hw⟩
end Go.Cg
namespace Go.Proofs.YtcnjgfadihimiaaDoor
open Go.RowKit Go.Cg Go.Shelf Go.Maps

def smpA : Alpha := ⟨[⟨#[118, 111, 119, 101, 108]⟩, ⟨#[102, 114, 111, 110, 116]⟩, ⟨#[114, 111, 117, 110, 100]⟩], [⟨97, 1, 6⟩, ⟨101, 3, 4⟩, ⟨111, 5, 2⟩, ⟨246, 7, 0⟩, ⟨105, 3, 4⟩, ⟨116, 0, 1⟩]⟩

set_option maxHeartbeats 1000000 in
theorem sample14_any (w : World) :
    Calls Tryd.prog 11 #[] w fun e w' => ∃ fp lp fc lc, e = .returned (.agg #[.slice fp smpA.feats.length fc, .slice lp smpA.lets.length lc]) ∧ AlphaAt w' fp lp smpA ∧ Ext w w' := by
  go_enter Tryd.func11, Tryd.ntmps11
  go_wp2_with fail
  obtain ⟨W1, hW1⟩ : ∃ W1, w.alloc (.cells #[.slice (some ⟨w.heap.size + 1, 0, none⟩) 3 3, .slice (some ⟨w.heap.size + 1 + 1, 0, none⟩) 6 6] 26) = W1 := ⟨_, rfl⟩
  have hz1 : W1.heap.size = w.heap.size + 1 := by rw [← hW1, size_alloc]
  have hb1 : W1.heap[w.heap.size]? = some (.cells #[.slice (some ⟨w.heap.size + 1, 0, none⟩) 3 3, .slice (some ⟨w.heap.size + 1 + 1, 0, none⟩) 6 6] 26 (0, 0)) := by rw [← hW1]; exact heap_alloc_new _ _
  have hx1 : Ext w W1 := by rw [← hW1]; exact (Ext.refl _).alloc _
  rw [hW1]
  clear hW1
  obtain ⟨W2, hW2⟩ : ∃ W2, W1.alloc (.cells #[.string ⟨#[118, 111, 119, 101, 108]⟩, .string ⟨#[102, 114, 111, 110, 116]⟩, .string ⟨#[114, 111, 117, 110, 100]⟩] 9) = W2 := ⟨_, rfl⟩
  have hz2 : W2.heap.size = w.heap.size + 1 + 1 := by rw [← hW2, size_alloc, hz1]
  have hc2 : ∀ j, W2.cell? ⟨w.heap.size + 1, j, none⟩ = #[Value.string ⟨#[118, 111, 119, 101, 108]⟩, .string ⟨#[102, 114, 111, 110, 116]⟩, .string ⟨#[114, 111, 117, 110, 100]⟩][j]? := by
    intro j
    have := (Ext.refl (W1.alloc (.cells #[.string ⟨#[118, 111, 119, 101, 108]⟩, .string ⟨#[102, 114, 111, 110, 116]⟩, .string ⟨#[114, 111, 117, 110, 100]⟩] 9))).cell0 j
    rw [hW2, hz1] at this; exact this
  have hx2 : Ext W1 W2 := by rw [← hW2]; exact (Ext.refl _).alloc _
  rw [hW2]
  clear hW2
  obtain ⟨W3, hW3⟩ : ∃ W3, W2.alloc (.cells #[.int .i32 97, .int .u32 1, .int .u32 6, .int .i32 101, .int .u32 3, .int .u32 4, .int .i32 111, .int .u32 5, .int .u32 2, .int .i32 246, .int .u32 7, .int .u32 0, .int .i32 105, .int .u32 3, .int .u32 4, .int .i32 116, .int .u32 0, .int .u32 1] 52) = W3 := ⟨_, rfl⟩
  have hc3 : ∀ j, W3.cell? ⟨w.heap.size + 1 + 1, j, none⟩ = #[Value.int .i32 97, .int .u32 1, .int .u32 6, .int .i32 101, .int .u32 3, .int .u32 4, .int .i32 111, .int .u32 5, .int .u32 2, .int .i32 246, .int .u32 7, .int .u32 0, .int .i32 105, .int .u32 3, .int .u32 4, .int .i32 116, .int .u32 0, .int .u32 1][j]? := by
    intro j
    have := (Ext.refl (W2.alloc (.cells #[.int .i32 97, .int .u32 1, .int .u32 6, .int .i32 101, .int .u32 3, .int .u32 4, .int .i32 111, .int .u32 5, .int .u32 2, .int .i32 246, .int .u32 7, .int .u32 0, .int .i32 105, .int .u32 3, .int .u32 4, .int .i32 116, .int .u32 0, .int .u32 1] 52))).cell0 j
    rw [hW3, hz2] at this; exact this
  have hz3 : W3.heap.size = w.heap.size + 1 + 1 + 1 := by rw [← hW3, size_alloc, hz2]
  have hx3 : Ext W2 W3 := by rw [← hW3]; exact (Ext.refl _).alloc _
  rw [hW3]
  clear hW3
  refine bodyPost_ret (results_cell_row rfl _ _ w.heap.size 26 #[.slice (some ⟨w.heap.size + 1, 0, none⟩) 3 3, .slice (some ⟨w.heap.size + 1 + 1, 0, none⟩) 6 6] (0, 0) _ rfl ((Below.block (hx2.trans hx3) w.heap.size (by omega)).trans hb1) Tryd.underlying26 rfl (by kernel_rfl)) rfl ?_
  refine ⟨_, _, _, _, rfl, ⟨.inr ⟨w.heap.size + 1, 0, rfl, by omega, fun j hj => ?_⟩, .inr ⟨w.heap.size + 1 + 1, 0, rfl, by omega, fun j hj => ?_⟩, by decide, by decide, ?_, ?_⟩, (hx1.trans hx2).trans hx3⟩
  · have h1 : j < 3 := hj
    rw [Nat.zero_add, hx3.facts.1 _ _ (by omega), hc2]
    match j, h1 with
    | 0, _ => rfl
    | 1, _ => rfl
    | 2, _ => rfl
  · have h1 : j < 18 := hj
    rw [Nat.zero_add, hc3]
    match j, h1 with
    | 0, _ => rfl
    | 1, _ => rfl
    | 2, _ => rfl
    | 3, _ => rfl
    | 4, _ => rfl
    | 5, _ => rfl
    | 6, _ => rfl
    | 7, _ => rfl
    | 8, _ => rfl
    | 9, _ => rfl
    | 10, _ => rfl
    | 11, _ => rfl
    | 12, _ => rfl
    | 13, _ => rfl
    | 14, _ => rfl
    | 15, _ => rfl
    | 16, _ => rfl
    | 17, _ => rfl
    | n + 18, h => exact absurd h (by omega)
  · intro i hi
    have h1 : i < 6 := hi
    unfold Letter.wf
    match i, h1 with
    | 0, _ => decide
    | 1, _ => decide
    | 2, _ => decide
    | 3, _ => decide
    | 4, _ => decide
    | 5, _ => decide
  · intro i hi
    have h1 : i < 3 := hi
    match i, h1 with
    | 0, _ => decide
    | 1, _ => decide
    | 2, _ => decide


def t_etota : ByteArray := ⟨#[101, 116, 111, 116, 97]⟩
def t_etote : ByteArray := ⟨#[101, 116, 195, 182, 116, 101]⟩
def t_eti : ByteArray := ⟨#[101, 116, 105]⟩
def t_eta : ByteArray := ⟨#[101, 116, 97]⟩
def t_ata : ByteArray := ⟨#[97, 116, 97]⟩
def t_atota : ByteArray := ⟨#[97, 116, 111, 116, 97]⟩
def t_otota : ByteArray := ⟨#[111, 116, 111, 116, 97]⟩
def t_t : ByteArray := ⟨#[116]⟩
def t_ao : ByteArray := ⟨#[97, 111]⟩
def t_eoi : ByteArray := ⟨#[101, 195, 182, 105]⟩
theorem al_1 : sprS smpA t_etota 1 2 = t_etote := by decide +kernel
theorem al_1e : signE smpA t_etota [1, 2] = 0 := by decide +kernel
theorem al_2 : sprS smpA t_eti 1 2 = t_eti := by decide +kernel
theorem al_2e : signE smpA t_eti [1, 2] = 0 := by decide +kernel
theorem al_3 : backS smpA t_eta 1 2 = t_ata := by decide +kernel
theorem al_3e : signE smpA t_eta [1, 2] = 0 := by decide +kernel
theorem al_4 : keepsB smpA t_eta 1 2 = false := by decide +kernel
theorem al_5 : keepsB smpA t_eta 1 4 = true := by decide +kernel
theorem al_5e : signE smpA t_eta [1, 4] = 0 := by decide +kernel
theorem al_6 : meetS smpA t_atota 1 4 4 = t_otota := by decide +kernel
theorem al_6e : signE smpA t_atota [1, 4, 4] = 0 := by decide +kernel
theorem al_7 : setsL smpA 1 2 = [[97, 111], [101, 246, 105]] := by decide +kernel
theorem al_7e : setsE smpA 1 2 = 0 := by decide +kernel
theorem al_8 : sprS smpA t_t 8 2 = ⟨#[]⟩ := by decide +kernel
theorem al_8e : signE smpA t_t [8, 2] = 20 := by decide +kernel
theorem al_9 : runesBytes [97, 111] = t_ao := by decide +kernel
theorem al_10 : runesBytes [101, 246, 105] = t_eoi := by decide +kernel

set_option maxRecDepth 100000 in
set_option maxHeartbeats 4000000 in
theorem alive14_any (w : World) (hT : Tabs w) :
    Calls Tryd.prog 10 #[] w fun e w' => e = .returned (.bool true) ∧ Ext w w' := by
  have h1 := fun fp lp fc lc W hA hT => spreadW_any fp lp fc lc smpA t_etota (by decide) 1 2 (by decide) (by decide) W hA hT
  rw [al_1, al_1e] at h1
  simp only [t_etota, t_etote] at h1
  have h2 := fun fp lp fc lc W hA hT => spreadW_any fp lp fc lc smpA t_eti (by decide) 1 2 (by decide) (by decide) W hA hT
  rw [al_2, al_2e] at h2
  simp only [t_eti] at h2
  have h3 := fun fp lp fc lc W hA hT => back_any fp lp fc lc smpA t_eta (by decide) 1 2 (by decide) (by decide) W hA hT
  rw [al_3, al_3e] at h3
  simp only [t_eta, t_ata] at h3
  have h4 := fun fp lp fc lc W hA hT => keeps_any fp lp fc lc smpA t_eta (by decide) 1 2 (by decide) (by decide) W hA hT
  rw [al_4, al_3e] at h4
  simp only [t_eta] at h4
  have h5 := fun fp lp fc lc W hA hT => keeps_any fp lp fc lc smpA t_eta (by decide) 1 4 (by decide) (by decide) W hA hT
  rw [al_5, al_5e] at h5
  simp only [t_eta] at h5
  have h6 := fun fp lp fc lc W hA hT => meet_any fp lp fc lc smpA t_atota (by decide) 1 4 4 (by decide) (by decide) (by decide) W hA hT
  rw [al_6, al_6e] at h6
  simp only [t_atota, t_otota] at h6
  have h7 := fun fp lp fc lc W hA => sets_any fp lp fc lc smpA 1 2 (by decide) (by decide) W hA
  rw [al_7, al_7e] at h7
  have h8 := fun fp lp fc lc W hA hT => spreadW_any fp lp fc lc smpA t_t (by decide) 8 2 (by decide) (by decide) W hA hT
  rw [al_8, al_8e] at h8
  simp only [t_t] at h8
  have H1 := Lib.hid h1
  have H2 := Lib.hid h2
  have H3 := Lib.hid h3
  have H4 := Lib.hid h4
  have H5 := Lib.hid h5
  have H6 := Lib.hid h6
  have H7 := Lib.hid h7
  have H8 := Lib.hid h8
  have HAO := Lib.hid al_9
  have HEOI := Lib.hid al_10
  clear h1 h2 h3 h4 h5 h6 h7 h8
  go_enter Tryd.func10, Tryd.ntmps10
  go_wp2_with fail
  refine (sample14_any _).mono ?_
  rintro e w1 ⟨fp, lp, fc, lc, rfl, hA, hx1⟩
  have hb : Ext w1 (w1.alloc (.cells #[.slice fp smpA.feats.length fc, .slice lp smpA.lets.length lc] 26)) := (Ext.refl _).alloc _
  have HBX := Lib.hid (fun W (hW : Ext (w1.alloc (.cells #[.slice fp smpA.feats.length fc, .slice lp smpA.lets.length lc] 26)) W) => (⟨hW.cell0 0, hW.cell0 1, hW.lt0⟩ : W.cell? ⟨w1.heap.size, 0, none⟩ = some (.slice fp smpA.feats.length fc) ∧ W.cell? ⟨w1.heap.size, 1, none⟩ = some (.slice lp smpA.lets.length lc) ∧ w1.heap.size < W.heap.size))
  go_wp2_with fail
  refine (H1.out fp lp fc lc _ (hA.mono hb) (hT.ext (hx1.trans hb))).mono ?_
  rintro e w2 ⟨rfl, hx2⟩
  obtain ⟨d0, d1, l0⟩ := HBX.out _ hx2
  go_wp2_with fail
  refine (H2.out fp lp fc lc _ (hA.mono (hb.trans hx2)) (hT.ext (hx1.trans (hb.trans hx2)))).mono ?_
  rintro e w3 ⟨rfl, hx3⟩
  have hx3 := hx2.trans hx3
  obtain ⟨d0, d1, l0⟩ := HBX.out _ hx3
  go_wp2_with fail
  refine (H3.out fp lp fc lc _ (hA.mono (hb.trans hx3)) (hT.ext (hx1.trans (hb.trans hx3)))).mono ?_
  rintro e w4 ⟨rfl, hx4⟩
  have hx4 := hx3.trans hx4
  obtain ⟨d0, d1, l0⟩ := HBX.out _ hx4
  go_wp2_with fail
  refine (H4.out fp lp fc lc _ (hA.mono (hb.trans hx4)) (hT.ext (hx1.trans (hb.trans hx4)))).mono ?_
  rintro e w5 ⟨rfl, hx5⟩
  have hx5 := hx4.trans hx5
  obtain ⟨d0, d1, l0⟩ := HBX.out _ hx5
  go_wp2_with fail
  refine (H5.out fp lp fc lc _ (hA.mono (hb.trans hx5)) (hT.ext (hx1.trans (hb.trans hx5)))).mono ?_
  rintro e w6 ⟨rfl, hx6⟩
  have hx6 := hx5.trans hx6
  obtain ⟨d0, d1, l0⟩ := HBX.out _ hx6
  go_wp2_with fail
  refine (H6.out fp lp fc lc _ (hA.mono (hb.trans hx6)) (hT.ext (hx1.trans (hb.trans hx6)))).mono ?_
  rintro e w7 ⟨rfl, hx7⟩
  have hx7 := hx6.trans hx7
  obtain ⟨d0, d1, l0⟩ := HBX.out _ hx7
  go_wp2_with fail
  refine (H7.out fp lp fc lc _ (hA.mono (hb.trans hx7))).mono ?_
  rintro e w8 ⟨v, vs, rfl, hP, hx8⟩
  have hx8 := hx7.trans hx8
  obtain ⟨d0, d1, l0⟩ := HBX.out _ hx8
  go_wp2_with fail
  refine (H8.out fp lp fc lc _ (hA.mono (hb.trans hx8)) (hT.ext (hx1.trans (hb.trans hx8)))).mono ?_
  rintro e w9 ⟨rfl, hx9⟩
  have hP9 := hP.ext hx9
  obtain ⟨go, gc, rfl, _, hgl, hc0, _⟩ := hP9.cell (i := 0) (by decide)
  obtain ⟨go', gc', e2, _, _, hc1, _⟩ := hP9.cell (i := 1) (by decide)
  simp only [Value.slice.injEq, Option.some.injEq, Addr.mk.injEq, and_true] at e2
  obtain ⟨rfl, _, rfl⟩ := e2
  obtain ⟨p0, c0, e0, hr0⟩ := hP9.runes (i := 0) (by decide) (by decide) (by decide)
  obtain ⟨p1, c1, e1, hr1⟩ := hP9.runes (i := 1) (by decide) (by decide) (by decide)
  rw [e0] at hc0
  rw [e1] at hc1
  have t0 := hr0.text (P := Tryd.prog) (src := 41) (dst := 9) Tryd.underlying41 Tryd.underlying21 Tryd.underlying9 c0
  have t1 := hr1.text (P := Tryd.prog) (src := 41) (dst := 9) Tryd.underlying41 Tryd.underlying21 Tryd.underlying9 c1
  have q0 : pl [[97, 111], [101, 246, 105]] 0 = [97, 111] := rfl
  have q1 : pl [[97, 111], [101, 246, 105]] 1 = [101, 246, 105] := rfl
  rw [q0] at t0 hc0
  rw [q1] at t1 hc1
  rw [HAO.out] at t0
  rw [HEOI.out] at t1
  simp only [List.length_cons, List.length_nil, Nat.zero_add, t_ao, t_eoi] at t0 t1 hc0 hc1
  have hyy := (hx1.trans hb).trans (hx8.trans hx9)
  clear q0 q1 e0 e1 hr0 hr1 hP hP9
  go_wp2_with fail
  go_ret
  exact ⟨rfl, hyy⟩

end Go.Proofs.YtcnjgfadihimiaaDoor
