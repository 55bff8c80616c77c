/- The law DoubleRuns, walked. -/
import Derived.Test.YtcjdpicepjoeoaaDoorDoubd
import Derived.Lib.SmallJoins
import Derived.Lib.BufferOwn
namespace Go.Proofs.YtcjdpicepjoeoaaDoor
open Go.RowKit Go.Cg Go.Shelf Go.Maps

theorem bat_front : frontE abtA ⟨#[98, 97, 116]⟩ 2 = 0 ∧ frontS abtA ⟨#[98, 97, 116]⟩ 2 = ⟨#[98, 97, 98, 97, 116]⟩ := by decide +kernel

set_option maxHeartbeats 1000000 in
theorem awake_any (w : World) (hT : Tabs w) : Calls Tryd.prog 7 #[] w fun e w' => e = .returned (.bool true) ∧ Ext w w' := by
  have hF := fun fp lp fc lc W hA hW => front_any fp lp fc lc abtA ⟨#[98, 97, 116]⟩ 2 (by decide) (by decide) W hA hW
  rw [bat_front.1, bat_front.2] at hF
  have HF := Lib.hid hF
  clear hF
  go_enter Tryd.func7, Tryd.ntmps7
  go_wp2_with (first | (go_at_call 23; refine (abt_any _).mono ?_; rintro e w1 ⟨fp, lp, fc, lc, rfl, hA, hx1⟩) | (go_at_call 14; refine (HF.out _ _ _ _ _ hA (hT.ext hx1)).mono ?_; rintro e w2 ⟨rfl, hx2⟩))
  go_ret
  exact ⟨rfl, hx1.trans hx2⟩

/-- the row's block is some block, its cells stand at it -/
def RowIn (T size c : Nat) (p : Option Addr) (w : World) : Prop := ∀ g, p = some ⟨g, 0, none⟩ → ∃ cur, w.heap[g]? = some (.cells cur T (0, 0)) ∧ cur.size = c * size
theorem RowIn.of {w : World} {B T size n c : Nat} {p : Option Addr} {xs : List Value} (h : w.ownsRow B T size (.slice p n c) n xs) : RowIn T size c p w := by
  intro g hg
  rcases h.2 with ⟨hv, _⟩ | ⟨g', cap, cur, hv, _, hb, _, _, hs, _⟩
  · simp only [Value.slice.injEq] at hv
    rw [hg] at hv; cases hv.1
  · simp only [Value.slice.injEq, true_and] at hv
    obtain ⟨h1, rfl⟩ := hv
    rw [hg] at h1
    cases h1
    exact ⟨cur, hb, hs⟩
theorem ownsRow_some {w : World} {B T size n c : Nat} {p : Option Addr} {xs : List Value} (h : w.ownsRow B T size (.slice p n c) n xs) (h0 : 0 < n) : ∃ g, p = some ⟨g, 0, none⟩ ∧ n ≤ c ∧ B ≤ g ∧ g < w.heap.size := by
  rcases h.2 with ⟨_, hn⟩ | ⟨g, cap, cur, hv, hb, hg, hn, _⟩
  · omega
  · simp only [Value.slice.injEq, true_and] at hv
    obtain ⟨rfl, rfl⟩ := hv
    exact ⟨g, rfl, hn, hb, (Array.getElem?_eq_some_iff.1 hg).1⟩

set_option maxRecDepth 100000 in
set_option maxHeartbeats 2000000 in
theorem doubleRuns_any (fp lp : Option Addr) (fc lc : Nat) (A : Alpha) (s : ByteArray) (hs : s.size ≤ 140737488351232) (w : World) (hA : AlphaAt w fp lp A) (hT : Tabs w) :
    Calls Tryd.prog 3 #[.agg #[.slice fp A.feats.length fc, .slice lp A.lets.length lc], .string s] w fun e w' => e = .returned (.bool true) ∧ Ext w w' := by
  have hx0 : Ext w (w.alloc (.cells #[.slice fp A.feats.length fc, .slice lp A.lets.length lc] 25)) := (Ext.refl _).alloc _
  have hR := fun W hW => runs_any fp lp fc lc A s hs W (hA.mono hW) (hT.ext hW)
  have hR' := fun W hW => Runs_any fp lp fc lc A s hs W (hA.mono hW) (hT.ext hW)
  have hP := fun W hW => period_any fp lp fc lc A s hs W (hA.mono hW) (hT.ext hW)
  have hP' := fun W hW => Period_any fp lp fc lc A s hs W (hA.mono hW) (hT.ext hW)
  have h64 := spell_len A s
  have hz64 : (runsL (spell A s).1).length ≤ 64 := Nat.le_trans (runsTo_len _ _) h64
  obtain ⟨z, hz⟩ : ∃ z, runsL (spell A s).1 = z := ⟨_, rfl⟩
  obtain ⟨er, her⟩ : ∃ er, (spell A s).2 = er := ⟨_, rfl⟩
  obtain ⟨pd, hpd⟩ : ∃ pd, ((periodL (spell A s).1 : Nat) : Int) = pd := ⟨_, rfl⟩
  rw [hz, her] at hR hR'
  rw [hpd, her] at hP hP'
  rw [hz] at hz64
  have HR := Lib.hid hR
  have HR' := Lib.hid hR'
  have HP := Lib.hid hP
  have HP' := Lib.hid hP'
  clear hR hR' hP hP' hz her hpd h64
  go_enter Tryd.func3, Tryd.ntmps3
  go_wp2_with (go_at_call 7; refine (awake_any _ (hT.ext hx0)).mono ?_; rintro e w1 ⟨rfl, hx1⟩; have d0 := hx1.cell0 0; have d1 := hx1.cell0 1; simp at d0 d1)
  refine (HR.out _ hx1.box).mono ?_
  rintro e w2 ⟨rp, rc, rfl, hown1, hx2⟩
  have hy2 := hx1.trans hx2
  have e0 := hy2.cell0 0; have e1 := hy2.cell0 1; simp at e0 e1; clear d0 d1
  go_wp2_with fail
  refine (HR'.out _ hy2.box).mono ?_
  rintro e w3 ⟨rp2, rc2, rfl, hown2, hx3⟩
  have hy3 := hy2.trans hx3
  have d0 := hy3.cell0 0; have d1 := hy3.cell0 1; simp at d0 d1; clear e0 e1
  go_wp2_with fail
  refine (HP.out _ hy3.box).mono ?_
  rintro e w4 ⟨rfl, hx4⟩
  have hy4 := hy3.trans hx4
  have e0 := hy4.cell0 0; have e1 := hy4.cell0 1; simp at e0 e1; clear d0 d1
  go_wp2_with fail
  refine (HP'.out _ hy4.box).mono ?_
  rintro e w5 ⟨rfl, hx5⟩
  have hy5 := hy4.trans hx5
  clear e0 e1
  go_wp2_with fail
  have ho1 := ownsRow_ext hown1 ((hx3.trans hx4).trans hx5)
  have ho2 := ownsRow_ext hown2 (hx4.trans hx5)
  refine (SameSpans_same _ _ _ _ z hz64 _ (SpanAt.of_own ho1) (SpanAt.of_own ho2)).mono ?_
  rintro e w6 ⟨rfl, hx6⟩
  have hy6 := hy5.trans hx6
  have hq1 := ownsRow_ext ho1 hx6
  have hq2 := ownsRow_ext ho2 hx6
  go_wp2_with fail
  go_loopw [15] (fun i wr => ∃ k : Nat, k ≤ z.length ∧ i = .int .i64 k ∧ w6.grownBy wr (Value.slice rp z.length rc).ownBlock ∧ RowIn 35 2 rc rp wr) (fun i _ => z.length - (intOf i).toNat)
  case atStart => exact ⟨0, Nat.zero_le _, rfl, World.grownBy.refl _ _, RowIn.of hq1⟩
  case round =>
    obtain ⟨k, hk, rfl, hg, hin⟩ := hrel
    by_cases hlt : k < z.length
    · obtain ⟨g, rfl, hnc, hgb, hgl⟩ := ownsRow_some hq1 (by omega)
      obtain ⟨cur, hcur, hcs⟩ := hin g rfl
      have f0 : wr.frozen? ⟨g, k * 2 + 1, none⟩ = false := by simp [World.frozen?, hcur]
      have c0 : wr.cell? ⟨g, k * 2 + 1, none⟩ = some cur[k * 2 + 1] := by simp [World.cell?, hcur]
      go_wp2_with fail
      refine ⟨⟨k + 1, by omega, by go_num, Lib.grownBy_setB hg _ _, ?_⟩, by simp [intOf]; omega⟩
      intro g' hg'
      cases hg'
      exact ⟨_, Joins.block_setCell hcur _, by simpa using hcs⟩
    · have hw7 : Ext (w.alloc (.cells #[.slice fp A.feats.length fc, .slice lp A.lets.length lc] 25)) wr := hy6.grown hg (fun k hk => by have := (hown1.lt k hk).1; have := hy2.le; have := hx1.le; omega)
      have hq3 := hq2.kept hg (by
        cases hb : (Value.slice rp2 z.length rc2).ownBlock with
        | none => exact .inl rfl
        | some k2 =>
          refine .inr fun e => ?_
          have a1 := (hown2.lt k2 hb).1
          have a2 := (hown1.lt k2 e.symm).2
          omega)
      have d0 := hw7.cell0 0; have d1 := hw7.cell0 1; simp at d0 d1
      have hl7 := hw7.lt0
      go_wp2_with fail
      refine (HR.out _ hw7.box).mono ?_
      rintro e w8 ⟨rp3, rc3, rfl, hown3, hx8⟩
      go_wp2_with fail
      refine (SameSpans_same _ _ _ _ z hz64 _ (SpanAt.of_own hown3) (SpanAt.of_own (ownsRow_ext hq3 hx8))).mono ?_
      rintro e w9 ⟨rfl, hx9⟩
      go_wp2_with fail
      go_ret
      exact ⟨rfl, (hw7.box.trans hx8).trans hx9⟩

end Go.Proofs.YtcjdpicepjoeoaaDoor
