/- Contracts: align.tabled, Words, Many. -/
import Derived.Test.YtcnhlogkhnoacaaGreatDoorAlge
namespace Go.Proofs.YtcnhlogkhnoacaaGreatDoor
open Go.RowKit Go.Cg Go.Shelf Go.Maps

set_option maxRecDepth 100000 in
set_option maxHeartbeats 2000000 in
theorem tabled_any (fp lp : Option Addr) (fc lc : Nat) (A : Alpha) (x y : ByteArray) (hx : x.size ≤ 140737488351232) (hy : y.size ≤ 140737488351232) (w : World) (hA : AlphaAt w fp lp A) (hTb : Tabs w) :
    Calls Tryz.prog 31 #[.agg #[.slice fp A.feats.length fc, .slice lp A.lets.length lc], .string x, .string y] w fun e w' => (twoE A x y = 0 → ∃ g xp yp xc yc, e = .returned (.tuple #[.pointer (some ⟨g, 0, none⟩), .int .i64 0]) ∧ RunesAt w' xp (ltr A x) ∧ RunesAt w' yp (ltr A y) ∧ TabAt w' g 94 (.slice xp (ltr A x).length xc) (.slice yp (ltr A y).length yc) (fun i k => i ≤ (ltr A x).length ∧ k ≤ (ltr A y).length) (tc (farC A) (ltr A x) (ltr A y)) (tm (farC A) (ltr A x) (ltr A y))) ∧ (twoE A x y ≠ 0 → e = .returned (.tuple #[.pointer none, .int .i64 (twoE A x y)])) ∧ Ext w w' := by
  have hx3 : Ext w (w.alloc (.cells #[.slice fp A.feats.length fc, .slice lp A.lets.length lc] 25)) := (Ext.refl _).alloc _
  have hcx := fun W hW => letters_any fp lp fc lc A x hx W (hA.mono hW) (hTb.ext hW)
  have hcy := fun W hW => letters_any fp lp fc lc A y hy W (hA.mono hW) (hTb.ext hW)
  have h1 := spell_len A x
  have h2 := spell_len A y
  have hte : twoE A x y = if (spell A x).2 ≠ 0 then (spell A x).2 else (spell A y).2 := rfl
  have e1 : ltr A x = (spell A x).1 := rfl
  have e2 : ltr A y = (spell A y).1 := rfl
  rw [e1, e2]
  obtain ⟨lx, hlx⟩ : ∃ l, (spell A x).1 = l := ⟨_, rfl⟩
  obtain ⟨ly, hly⟩ : ∃ l, (spell A y).1 = l := ⟨_, rfl⟩
  obtain ⟨ex, hex⟩ : ∃ e, (spell A x).2 = e := ⟨_, rfl⟩
  obtain ⟨ey, hey⟩ : ∃ e, (spell A y).2 = e := ⟨_, rfl⟩
  rw [hlx, hex] at hcx
  rw [hly, hey] at hcy
  rw [hlx] at h1
  rw [hly] at h2
  rw [hex, hey] at hte
  rw [hlx, hly]
  obtain ⟨te, hE⟩ : ∃ te, twoE A x y = te := ⟨_, rfl⟩
  rw [hE] at hte ⊢
  have HFI := Lib.hid (fun xp yp xc yc W (hW : Ext w W) hX hY => filled_any fp lp xp yp fc lc xc yc A lx ly h1 h2 W (hA.mono hW) hX hY)
  have HCX := Lib.hid hcx
  have HCY := Lib.hid hcy
  clear e1 e2 hlx hly hex hey hE hcx hcy h1 h2
  by_cases h0 : ex = 0
  · subst h0
    rw [if_neg (by decide)] at hte
    subst hte
    by_cases h3 : te = 0
    · subst h3
      go_enter Tryz.func31, Tryz.ntmps31
      go_wp2_with fail
      refine (HCX.out _ hx3).mono ?_
      rintro e w1 ⟨xp, xc, rfl, hox, hx1⟩
      have d0 := hx1.cell0 0
      have d1 := hx1.cell0 1
      have l0 := hx1.lt0
      simp at d0 d1
      go_wp2_with fail
      refine (HCY.out _ (hx3.trans hx1)).mono ?_
      rintro e w2 ⟨yp, yc, rfl, hoy, hx2⟩
      have d0 := (hx1.trans hx2).cell0 0
      have d1 := (hx1.trans hx2).cell0 1
      have l0 := (hx1.trans hx2).lt0
      simp at d0 d1
      go_wp2_with fail
      refine (HFI.out xp yp xc yc _ ((hx3.trans hx1).trans hx2) (hox.at_.mono hx2) hoy.at_).mono ?_
      rintro e w4 ⟨g, rfl, hgw, hTT, hx4⟩
      go_wp2_with fail
      go_ret2
      exact ⟨fun _ => ⟨g, xp, yp, xc, yc, rfl, hox.at_.mono (hx2.trans hx4), hoy.at_.mono hx4, hTT⟩, fun h => absurd rfl h, ((hx3.trans hx1).trans hx2).trans hx4⟩
    · have gE : (te != 0) = true := by rw [bne_iff_ne]; exact h3
      go_enter Tryz.func31, Tryz.ntmps31
      go_wp2_with fail
      refine (HCX.out _ hx3).mono ?_
      rintro e w1 ⟨xp, xc, rfl, hox, hx1⟩
      have d0 := hx1.cell0 0
      have d1 := hx1.cell0 1
      have l0 := hx1.lt0
      simp at d0 d1
      go_wp2_with fail
      refine (HCY.out _ (hx3.trans hx1)).mono ?_
      rintro e w2 ⟨yp, yc, rfl, hoy, hx2⟩
      go_wp2_with fail
      go_ret2
      exact ⟨fun h => absurd h h3, fun _ => rfl, (hx3.trans hx1).trans hx2⟩
  · rw [if_pos h0] at hte
    subst hte
    have gE : (te != 0) = true := by rw [bne_iff_ne]; exact h0
    go_enter Tryz.func31, Tryz.ntmps31
    go_wp2_with fail
    refine (HCX.out _ hx3).mono ?_
    rintro e w1 ⟨xp, xc, rfl, hox, hx1⟩
    go_wp2_with fail
    go_ret2
    exact ⟨fun h => absurd h h0, fun _ => rfl, hx3.trans hx1⟩

theorem twoP_len (A : Alpha) (x y : ByteArray) : (twoP A x y).length ≤ 128 := by
  unfold twoP
  split
  · rename_i h
    obtain ⟨a, b⟩ := twoE_zero h
    obtain ⟨hA, _, ia, la⟩ := ltr_ok a
    obtain ⟨_, _, ib, lb⟩ := ltr_ok b
    have := (fst1_ok (farC_same A) _ _ (InA_ne hA ia) (InA_ne hA ib)).2.2.2
    omega
  · simp

set_option maxRecDepth 100000 in
set_option maxHeartbeats 2000000 in
theorem words_any (fp lp : Option Addr) (fc lc : Nat) (A : Alpha) (x y : ByteArray) (hx : x.size ≤ 140737488351232) (hy : y.size ≤ 140737488351232) (w : World) (hA : AlphaAt w fp lp A) (hTb : Tabs w) :
    Calls Tryz.prog 8 #[.agg #[.slice fp A.feats.length fc, .slice lp A.lets.length lc], .string x, .string y] w fun e w' => ∃ p c, e = .returned (.tuple #[.int .i64 (twoC A x y : Nat), .slice p (twoP A x y).length c, .int .i64 (twoE A x y)]) ∧ OwnPairs 97 w.heap.size w' p c (twoP A x y) ∧ Ext w w' := by
  have hx3 : Ext w (w.alloc (.cells #[.slice fp A.feats.length fc, .slice lp A.lets.length lc] 25)) := (Ext.refl _).alloc _
  have hct := tabled_any fp lp fc lc A x y hx hy _ (hA.mono hx3) (hTb.ext hx3)
  have h1 : (ltr A x).length ≤ 64 := spell_len A x
  have h2 : (ltr A y).length ≤ 64 := spell_len A y
  have htc : twoC A x y = if twoE A x y = 0 then al (farC A) (ltr A x) (ltr A y) else 0 := rfl
  have htp : twoP A x y = if twoE A x y = 0 then fst1 (farC A) (ltr A x) (ltr A y) else [] := rfl
  by_cases h0 : twoE A x y = 0
  · rw [if_pos h0] at htc htp
    rw [htc, htp, h0]
    have hfi := fun xp yp xc yc g W (hW : Ext w W) hX hY hT => first_any fp lp xp yp fc lc xc yc g A (ltr A x) (ltr A y) (tm (farC A) (ltr A x) (ltr A y)) h1 h2 W (hA.mono hW) hX hY hT
    have hz : tc (farC A) (ltr A x) (ltr A y) 0 0 = al (farC A) (ltr A x) (ltr A y) := rfl
    have HCT := Lib.hid (hct.mono fun e w' h => (⟨h.1 h0, h.2.2⟩ : _ ∧ Ext (w.alloc (.cells #[.slice fp A.feats.length fc, .slice lp A.lets.length lc] 25)) w'))
    clear hct htc htp h0
    obtain ⟨lx, hlx⟩ : ∃ l, ltr A x = l := ⟨_, rfl⟩
    obtain ⟨ly, hly⟩ : ∃ l, ltr A y = l := ⟨_, rfl⟩
    rw [hlx, hly] at hfi hz HCT ⊢
    rw [hlx] at h1
    rw [hly] at h2
    clear hlx hly
    obtain ⟨F, hF⟩ : ∃ F, fst1 (farC A) lx ly = F := ⟨_, rfl⟩
    rw [hF] at hfi ⊢
    clear hF
    obtain ⟨c, hc⟩ : ∃ c, tc (farC A) lx ly = c := ⟨_, rfl⟩
    obtain ⟨m, hm⟩ : ∃ m, tm (farC A) lx ly = m := ⟨_, rfl⟩
    rw [hc, hm] at hfi HCT
    rw [hc] at hz
    rw [← hz]
    have HFI := Lib.hid hfi
    clear hfi hc hm hz
    go_enter Tryz.func8, Tryz.ntmps8
    go_wp2_with fail
    refine HCT.out.mono ?_
    rintro e w1 ⟨⟨g, xp, yp, xc, yc, rfl, hX, hY, hT⟩, hx1⟩
    have d0 := hx1.cell0 0
    have d1 := hx1.cell0 1
    have l0 := hx1.lt0
    simp at d0 d1
    have lg := hT.lt
    have c0 := hT.cost (i := 0) (k := 0) ⟨by omega, by omega⟩ (by omega) (by omega)
    simp only [Nat.zero_mul, Nat.add_zero] at c0
    go_wp2_with fail
    have hS4 := fun (W : World) (hW : Ext w1 W) => (⟨hW, (hx1.trans hW).cell0 0, (hx1.trans hW).cell0 1, (hW.facts.1 g 2 lg).trans c0⟩ : Ext w1 W ∧ W.cell? ⟨w.heap.size, 0, none⟩ = some (.slice fp A.feats.length fc) ∧ W.cell? ⟨w.heap.size, 1, none⟩ = some (.slice lp A.lets.length lc) ∧ W.cell? ⟨g, 2, none⟩ = some (.int .i64 (c 0 0 : Nat)))
    have HS4 := Lib.hid hS4
    clear hS4
    have hxw : Ext w w1 := hx3.trans hx1
    go_region_held3 (fun W => Ext w1 W ∧ W.cell? ⟨w.heap.size, 0, none⟩ = some (.slice fp A.feats.length fc) ∧ W.cell? ⟨w.heap.size, 1, none⟩ = some (.slice lp A.lets.length lc) ∧ W.cell? ⟨g, 2, none⟩ = some (.int .i64 (c 0 0 : Nat))) (exact HS4.out _ (by first | assumption | exact Ext.refl _ | exact (Ext.refl _).drew))
      (first | (go_at_call 32; refine (HFI.out xp yp xc yc g _ hxw.drew (hX.mono (Ext.refl _).drew) (hY.mono (Ext.refl _).drew) (hT.ext (Ext.refl _).drew)).mono ?_; rintro e w3 ⟨pp, pc, rfl, hop, hx4⟩; have hE3 : Ext w1 w3 := ((Ext.refl w1).drew).trans hx4))
    go_wp2_with fail
    go_ret3
    exact ⟨pp, pc, rfl, ⟨ownsRow_base hop.1 (hxw.drew).le, hop.2⟩, hxw.trans hE3⟩
  · rw [if_neg h0] at htc htp
    rw [htc, htp]
    have HCT := Lib.hid (hct.mono fun e w' h => (⟨h.2.1 h0, h.2.2⟩ : _ ∧ Ext (w.alloc (.cells #[.slice fp A.feats.length fc, .slice lp A.lets.length lc] 25)) w'))
    have gE : (twoE A x y != 0) = true := by rw [bne_iff_ne]; exact h0
    clear hct htc htp h0
    go_enter Tryz.func8, Tryz.ntmps8
    go_wp2_with fail
    refine HCT.out.mono ?_
    rintro e w1 ⟨rfl, hx1⟩
    go_wp2_with fail
    go_ret3
    exact ⟨none, 0, rfl, ⟨World.ownsRow_nil _ _ _ _, by simp, fun i hi => absurd hi (by simp)⟩, hx3.trans hx1⟩

def manyE (A : Alpha) (x y : ByteArray) (n : Int) : Int := if twoE A x y ≠ 0 then twoE A x y else if n < 0 ∨ 1048576 < n then 2 else 0
def manyN (A : Alpha) (x y : ByteArray) (n : Int) : Int := if manyE A x y n = 0 then min ((mn (farC A) (ltr A x) (ltr A y) : Nat) : Int) n else 0

end Go.Proofs.YtcnhlogkhnoacaaGreatDoor
