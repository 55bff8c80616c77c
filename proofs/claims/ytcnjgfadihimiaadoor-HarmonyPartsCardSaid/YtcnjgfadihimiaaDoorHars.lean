/- Contract: cognatelaw14.parts; plain laws of parts in memory. -/
import Derived.Test.YtcnjgfadihimiaaDoorHarmc
namespace Go.Cg
open Go.RowKit Go.Lib Go.Maps
/-- parts of a size that may be -/
structure GoodP (ls : List (List Int)) : Prop where
  few : ls.length ≤ 128
  some_ : ∀ t, t < ls.length → 0 < (pl ls t).length ∧ (pl ls t).length ≤ 128
  wf : ∀ t, t < ls.length → ∀ u, u < (pl ls t).length → -2147483648 ≤ rn (pl ls t) u ∧ rn (pl ls t) u ≤ 2147483647
theorem setsL_good {w : World} {fp lp : Option Addr} {A : Alpha} (hA : AlphaAt w fp lp A) (p k : Nat) : GoodP (setsL A p k) := by
  by_cases h0 : setsE A p k = 0
  · rw [show setsL A p k = runesP (setsTo A p k A.lets.length) from if_pos h0]
    have hok : A.Ok := by
      by_cases h : A.Ok
      · exact h
      · unfold setsE at h0; rw [if_neg h] at h0; cases h0
    have h128 := hok.2.2.1
    refine ⟨by rw [runesP_len]; exact Nat.le_trans (setsTo_good A p k _).2 h128, fun t ht => ⟨?_, ?_⟩, fun t ht u hu => ?_⟩
    · rw [runesP_len] at ht
      exact (part_head A p k (Nat.le_refl _) ht).1
    · exact Nat.le_trans (pl_len_le A p k _ t ht) h128
    · rw [runesP_len] at ht
      rw [pl_runes] at hu ⊢
      have hm : (setsTo A p k A.lets.length).getD t [] ∈ setsTo A p k A.lets.length := by
        rw [List.getD_eq_getElem?_getD, List.getElem?_eq_getElem ht]; exact List.getElem_mem ht
      rw [List.length_map] at hu
      obtain ⟨i, hi, e⟩ := setsTo_from A p k _ (Nat.le_refl _) _ hm _ (List.getElem_mem hu)
      rw [rn_eq (by simpa using hu), List.getElem_map, e]
      exact ⟨(hA.wf i hi).1, (hA.wf i hi).2.1⟩
  · rw [show setsL A p k = [] from if_neg h0]
    exact ⟨by simp, fun t ht => absurd ht (by simp), fun t ht => absurd ht (by simp)⟩
theorem PartsAt.runesG {w : World} {B : Nat} {To Ti : TypeId} {v : Value} {vs : List Value} {ls : List (List Int)} (h : PartsAt w B To Ti v vs ls) (hg : GoodP ls) {i : Nat} (hi : i < ls.length) :
    ∃ b c, pv vs i = .slice (some ⟨b, 0, none⟩) (pl ls i).length c ∧ B ≤ b ∧ b < w.heap.size ∧ RunesAt w (some ⟨b, 0, none⟩) (pl ls i) := by
  obtain ⟨b, c, h1, h2, h3, _⟩ := h.elem hi (hg.some_ i hi).1
  obtain ⟨p, c', h5, h6⟩ := h.runes hi (by have := (hg.some_ i hi).2; omega) (hg.wf i hi)
  rw [h1] at h5
  simp only [Value.slice.injEq, true_and] at h5
  obtain ⟨rfl, _⟩ := h5
  exact ⟨b, c, h1, h2, h3, h6⟩
/-- kept where none of its blocks is written -/
theorem PartsAt.same {w w' : World} {B : Nat} {To Ti : TypeId} {v : Value} {vs : List Value} {ls : List (List Int)} (h : PartsAt w B To Ti v vs ls) (hs : ∀ b, B ≤ b → b < w.heap.size → w'.heap[b]? = w.heap[b]?) : PartsAt w' B To Ti v vs ls := by
  have hr : ∀ {e size x n xs}, w.ownsRow B e size x n xs → w'.ownsRow B e size x n xs := fun {e size x n xs} ho => by
    refine ⟨ho.1, ?_⟩
    rcases ho.2 with hn | ⟨g, cap, cur, rfl, hb, hg, r⟩
    · exact .inl hn
    · exact .inr ⟨g, cap, cur, rfl, hb, (hs g hb (Array.getElem?_eq_some_iff.1 hg).1).trans hg, r⟩
  exact ⟨h.len, hr h.out, fun i hi => hr (h.row i hi), h.apart⟩
/-- behind 'l[i][0] = x' -/
theorem PartsAt.setHead {w : World} {B : Nat} {To Ti : TypeId} {v : Value} {vs : List Value} {ls : List (List Int)} (h : PartsAt w B To Ti v vs ls) {i : Nat} (hi : i < ls.length) {b c : Nat} (hb : pv vs i = .slice (some ⟨b, 0, none⟩) (pl ls i).length c) (x : Int) :
    PartsAt (w.setCell ⟨b, 0, none⟩ (.int .i32 x)) B To Ti v vs (ls.set i ((pl ls i).set 0 x)) ∧ w.grownBy (w.setCell ⟨b, 0, none⟩ (.int .i32 x)) (some b) := by
  have hrow := h.row i hi
  rw [hb] at hrow
  obtain ⟨hs1, hs2⟩ := hrow.stored 0 (.int .i32 x)
  have hob : (pv vs i).ownBlock = some b := by rw [hb]; rfl
  refine ⟨⟨by rw [List.length_set]; exact h.len, h.out.kept hs2 (.inr fun e => (h.apart i hi b hob).1 e), fun j hj => ?_, fun j hj k hk => ?_⟩, hs2⟩
  · rw [pl_set _ _ _ _ hi]
    by_cases e : j = i
    · rw [if_pos e, e, hb, List.length_set, List.map_set]
      exact hs1
    · rw [if_neg e]
      have hj' : j < ls.length := by simpa using hj
      exact (h.row j hj').kept hs2 (.inr fun e2 => (h.apart i hi b hob).2 j hj' e e2)
  · have hj' : j < ls.length := by simpa using hj
    obtain ⟨a1, a2⟩ := h.apart j hj' k hk
    exact ⟨a1, fun t ht hne => a2 t (by simpa using ht) hne⟩
end Go.Cg
namespace Go.Proofs.YtcnjgfadihimiaaDoor
open Go.RowKit Go.Cg Go.Shelf Go.Maps

set_option maxRecDepth 100000 in
set_option maxHeartbeats 4000000 in
theorem parts_any (B1 B2 : Nat) (v1 v2 : Value) (vs1 vs2 : List Value) (ls : List (List Int)) (hg : GoodP ls) (w : World) (h1 : PartsAt w B1 41 21 v1 vs1 ls) (h2 : PartsAt w B2 41 21 v2 vs2 ls) :
    Calls Tryd.prog 23 #[v1, v2] w fun e w' => e = .returned (.bool true) ∧ Ext w w' := by
  have hf := hg.few
  obtain ⟨p1, c1, e1⟩ := ownsRow_slice h1.out
  obtain ⟨p2, c2, e2⟩ := ownsRow_slice h2.out
  have l1 := h1.len
  have l2 := h2.len
  rw [l1] at e1
  rw [l2] at e2
  subst e1
  subst e2
  have HG := Lib.hid hg
  clear l1 l2 hg
  obtain ⟨N, hN⟩ : ∃ N, ls.length = N := ⟨_, rfl⟩
  have HN := Lib.hid hN
  rw [hN] at hf ⊢
  clear hN
  go_enter Tryd.func23, Tryd.ntmps23
  go_wp2_with fail
  go_loopw [5] (fun i wr => ∃ t : Nat, t ≤ N ∧ i = .int .i64 t ∧ Ext w wr) (fun i _ => N - (intOf i).toNat)
  case atStart => exact ⟨0, Nat.zero_le _, rfl, Ext.refl _⟩
  case round =>
    obtain ⟨t, ht, rfl, hx⟩ := hrel
    by_cases hlt : t < N
    · have htl : t < ls.length := by rw [HN.out]; exact hlt
      obtain ⟨g1, gc1, o1, _, _, x1, _⟩ := (h1.ext hx).cell htl
      obtain ⟨g2, gc2, o2, _, _, x2, _⟩ := (h2.ext hx).cell htl
      simp only [Value.slice.injEq] at o1 o2
      obtain ⟨rfl, _, rfl⟩ := o1
      obtain ⟨rfl, _, rfl⟩ := o2
      obtain ⟨b1, d1, q1, _, _, r1⟩ := (h1.ext hx).runesG HG.out htl
      obtain ⟨b2, d2, q2, _, _, r2⟩ := (h2.ext hx).runesG HG.out htl
      rw [q1] at x1
      rw [q2] at x2
      have t1 := fun W (hW : Ext wr W) => (r1.mono hW).text (P := Tryd.prog) (src := 41) (dst := 9) Tryd.underlying41 Tryd.underlying21 Tryd.underlying9 d1
      have t2 := fun W (hW : Ext wr W) => (r2.mono hW).text (P := Tryd.prog) (src := 41) (dst := 9) Tryd.underlying41 Tryd.underlying21 Tryd.underlying9 d2
      obtain ⟨T, hT⟩ : ∃ T, runesBytes (pl ls t) = T := ⟨_, rfl⟩
      obtain ⟨M, hM⟩ : ∃ M, (pl ls t).length = M := ⟨_, rfl⟩
      have hM2 := (HG.out.some_ t htl).2
      rw [hT, hM] at t1 t2
      rw [hM] at x1 x2 hM2
      clear hT hM r1 r2 q1 q2 htl
      go_wp2_with fail
      (refine wp_region_ext (by kernel_rfl) (by kernel_rfl) ?_; intro ι hι g hg; have q_x1 := hg.cell x1; have q_x2 := hg.cell x2; have q_t1 := fun i => t1 _ (hg.ext i); have q_t2 := fun i => t2 _ (hg.ext i); clear x1 x2 t1 t2; (repeat (go_big_quiet_step (fail))); refine wpQuiet_nil ?_; rintro w8 ⟨i2, rfl⟩; have hq := hg.ext i2; generalize g i2 = w8 at hq ⊢; clear q_x1 q_x2 q_t1 q_t2 i2 hg g hι ι)
      go_wp2_with fail
      exact ⟨⟨t + 1, by omega, by go_num, hx.trans hq⟩, by simp [intOf]; omega⟩
    · have e : t = N := by omega
      subst e
      go_wp2_with fail
      go_ret
      exact ⟨rfl, hx⟩

end Go.Proofs.YtcnjgfadihimiaaDoor
