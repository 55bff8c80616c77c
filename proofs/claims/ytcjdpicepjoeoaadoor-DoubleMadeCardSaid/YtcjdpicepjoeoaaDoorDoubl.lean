/- Contracts over rows of runes: slices.Index, Contains, IndexFunc; double.Peak's closure; the reference's Doubled, Has, Class, Check. -/
import Derived.Test.YtcjdpicepjoeoaaDoorDoubd
import Derived.Test.YtcjdpicepjoeoaaDoorFeati
namespace Go.Proofs.YtcjdpicepjoeoaaDoor
open Go.RowKit Go.Cg Go.Shelf Go.Maps

theorem mem_of_rn {l : List Int} {r : Int} {k : Nat} (hk : k < l.length) (h : rn l k = r) : r ∈ l := by
  rw [rn_eq hk] at h; rw [← h]; exact List.getElem_mem hk
theorem not_mem_rn {l : List Int} {r : Int} (h : ∀ j, j < l.length → rn l j ≠ r) : ¬ r ∈ l := fun hm => by
  obtain ⟨j, hj, e⟩ := List.getElem_of_mem hm
  exact h j hj (by rw [rn_eq hj]; exact e)

set_option maxHeartbeats 1000000 in
theorem Index_any (p : Option Addr) (c : Nat) (l : List Int) (r : Int) (w : World) (h : RunesAt w p l) :
    Calls Tryd.prog 45 #[.slice p l.length c, .int .i32 r] w fun e w' => (∃ v : Int, e = .returned (.int .i64 v) ∧ -1 ≤ v ∧ v ≤ 35184372088832 ∧ decide (0 ≤ v) = decide (r ∈ l)) ∧ Ext w w' := by
  have hb := h.big
  go_enter Tryd.func45, Tryd.ntmps45
  go_wp2_with fail
  go_loopw [8] (fun i wr => ∃ k : Nat, k ≤ l.length ∧ Hid (∀ j, j < k → rn l j ≠ r) ∧ i = .int .i64 k ∧ Ext w wr) (fun i _ => l.length - (intOf i).toNat)
  case atStart => exact ⟨0, Nat.zero_le _, fun j hj => by omega, rfl, Ext.refl _⟩
  case round =>
    obtain ⟨k, hk, HN, rfl, hx⟩ := hrel
    by_cases hlt : k < l.length
    · obtain ⟨b, off, rfl, hbw, c0⟩ := (h.mono hx).cells hlt
      cases he : (r == rn l k)
      · go_wp2_with fail
        refine ⟨⟨k + 1, by omega, upto_succ HN.out (fun e => by rw [e] at he; simp at he), by go_num, hx⟩, by simp [intOf]; omega⟩
      · go_wp2_with fail
        go_ret
        refine ⟨⟨k, rfl, by omega, by omega, ?_⟩, hx⟩
        rw [decide_eq_true (by omega), decide_eq_true (mem_of_rn hlt (by simp at he; exact he.symm))]
    · go_wp2_with fail
      go_ret
      refine ⟨⟨-1, rfl, by omega, by omega, ?_⟩, hx⟩
      rw [decide_eq_false (not_mem_rn fun j hj => HN.out j (by omega))]; rfl

set_option maxHeartbeats 1000000 in
theorem Contains_any (p : Option Addr) (c : Nat) (l : List Int) (r : Int) (w : World) (h : RunesAt w p l) :
    Calls Tryd.prog 36 #[.slice p l.length c, .int .i32 r] w fun e w' => e = .returned (.bool (decide (r ∈ l))) ∧ Ext w w' := by
  go_enter Tryd.func36, Tryd.ntmps36
  go_wp2_with (go_at_call 45; refine (Index_any _ _ _ _ _ h).mono ?_; rintro e w1 ⟨⟨v, rfl, hv1, hv2, hv⟩, hx⟩)
  go_ret
  exact ⟨rfl, hx⟩

set_option maxHeartbeats 1000000 in
theorem peak1_any (B : Nat) (cp : Option Addr) (cc : Nat) (cl : List Int) (r : Int) (w : World) (hc : w.cell? ⟨B, 0, none⟩ = some (.slice cp cl.length cc)) (h : RunesAt w cp cl) :
    Calls Tryd.prog 35 #[.int .i32 r, .pointer (some ⟨B, 0, none⟩)] w fun e w' => e = .returned (.bool (decide (r ∈ cl))) ∧ Ext w w' := by
  go_enter Tryd.func35, Tryd.ntmps35
  go_wp2_with (go_at_call 36; refine (Contains_any _ _ _ _ _ h).mono ?_; rintro e w1 ⟨rfl, hx⟩)
  go_ret
  exact ⟨rfl, hx⟩

/-- the first place at which q holds; -1: there is none -/
def firstN (l : List Int) (q : Int → Bool) : Int := match l.findIdx? q with
  | some i => (i : Int)
  | none => -1
theorem firstN_at {l : List Int} {q : Int → Bool} {k : Nat} (hk : k < l.length) (hno : ∀ j, j < k → q (rn l j) = false) (he : q (rn l k) = true) : firstN l q = k := by
  have : l.findIdx? q = some k := by
    rw [List.findIdx?_eq_some_iff_getElem]
    refine ⟨hk, by rw [← rn_eq hk]; exact he, fun j hj => ?_⟩
    have := hno j hj; rw [rn_eq (by omega)] at this; simpa using this
  simp [firstN, this]
theorem firstN_none {l : List Int} {q : Int → Bool} (hno : ∀ j, j < l.length → q (rn l j) = false) : firstN l q = -1 := by
  have : l.findIdx? q = none := by
    rw [List.findIdx?_eq_none_iff]
    intro x hx
    obtain ⟨j, hj, rfl⟩ := List.getElem_of_mem hx
    have := hno j hj; rwa [rn_eq hj] at this
  simp [firstN, this]
theorem firstN_range (l : List Int) (q : Int → Bool) : firstN l q = -1 ∨ (0 ≤ firstN l q ∧ firstN l q < l.length) := by
  unfold firstN
  cases h : l.findIdx? q with
  | none => exact .inl rfl
  | some i => have := (List.findIdx?_eq_some_iff_getElem.1 h).1; exact .inr ⟨by simp, by simpa using this⟩
theorem firstN_congr {l : List Int} {q q' : Int → Bool} (h : ∀ r ∈ l, q r = q' r) : firstN l q = firstN l q' := by
  have : l.findIdx? q = l.findIdx? q' := by
    induction l with
    | nil => rfl
    | cons x l ih =>
      rw [List.findIdx?_cons, List.findIdx?_cons, h x (List.mem_cons_self ..), ih fun r hr => h r (List.mem_cons_of_mem _ hr)]
  unfold firstN; rw [this]

set_option maxHeartbeats 1000000 in
theorem IndexFuncR_any (p : Option Addr) (c : Nat) (l : List Int) (f : FuncId) (cap : Array Value) (q : Int → Bool) (w : World) (h : RunesAt w p l)
    (eg : ∀ args W, (callFunc f args).run Tryd.prog W = .ok (.enter f args) W)
    (hf : ∀ i, i < l.length → ∀ W, Ext w W → Calls Tryd.prog f (#[.int .i32 (rn l i)] ++ cap) W fun e W' => e = .returned (.bool (q (rn l i))) ∧ Ext W W') :
    Calls Tryd.prog 34 #[.slice p l.length c, .func (.func f) #[] cap] w fun e w' => e = .returned (.int .i64 (firstN l q)) ∧ Ext w w' := by
  have hb := h.big
  have HF := Lib.hid hf
  clear hf
  go_enter Tryd.func34, Tryd.ntmps34
  go_wp2_with fail
  go_loopw [8] (fun i wr => ∃ k : Nat, k ≤ l.length ∧ Hid (∀ j, j < k → q (rn l j) = false) ∧ i = .int .i64 k ∧ Ext w wr) (fun i _ => l.length - (intOf i).toNat)
  case atStart => exact ⟨0, Nat.zero_le _, fun j hj => by omega, rfl, Ext.refl _⟩
  case round =>
    obtain ⟨k, hk, HN, rfl, hx⟩ := hrel
    by_cases hlt : k < l.length
    · obtain ⟨b, off, rfl, hbw, c0⟩ := (h.mono hx).cells hlt
      cases hp : q (rn l k)
      · have HF2 := Lib.hid (HF.out k hlt _ hx)
        rw [hp] at HF2
        go_wp2_with ((refine HF2.out.mono ?_); rintro e w1 ⟨rfl, hx1⟩)
        refine ⟨⟨k + 1, by omega, upto_succ HN.out hp, by go_num, hx.trans hx1⟩, by simp [intOf]; omega⟩
      · have HF2 := Lib.hid (HF.out k hlt _ hx)
        rw [hp] at HF2
        have hst := firstN_at hlt HN.out hp
        have HST := Lib.hid hst
        clear hst
        go_wp2_with ((refine HF2.out.mono ?_); rintro e w1 ⟨rfl, hx1⟩)
        go_ret
        exact ⟨ret_int HST.out.symm, hx.trans hx1⟩
    · have hst := firstN_none fun j hj => HN.out j (by omega)
      have HST := Lib.hid hst
      clear hst
      go_wp2_with fail
      go_ret
      exact ⟨ret_int HST.out.symm, hx⟩

theorem runes_news {w : World} {b off : Nat} {l : List Int} (h : RunesAt w (some ⟨b, off, none⟩) l) : ∀ (j : Nat) (u : Value), (l.map (Value.int .i32))[j]? = some u → w.cell? ((⟨b, off, none⟩ : Addr).add j) = some u := by
  intro j u hu
  have e : ((⟨b, off, none⟩ : Addr).add j) = ⟨b, off + j, none⟩ := by simp [Addr.add]
  rw [List.getElem?_map] at hu
  by_cases hj : j < l.length
  · rw [List.getElem?_eq_getElem hj] at hu
    rw [e, (h.cell hj).2, rn_eq hj, ← hu]; rfl
  · rw [List.getElem?_eq_none (by omega)] at hu; cases hu

theorem news_one (l : List Int) : ∀ u ∈ l.map (Value.int .i32), u.oneCell' = true := by
  intro u hu
  obtain ⟨r, _, rfl⟩ := List.mem_map.1 hu
  rfl

set_option maxRecDepth 100000 in
set_option maxHeartbeats 1000000 in
theorem Doubled_any (p : Option Addr) (c : Nat) (l : List Int) (n : Nat) (w : World) (h : RunesAt w p l) (hp : (∃ b off, p = some ⟨b, off, none⟩) ∨ (p = none ∧ c = 0)) (hc : l.length ≤ c) (hn : n ≤ l.length) (h64 : l.length ≤ 64) :
    Calls Tryd.prog 31 #[.slice p l.length c, .int .i64 n] w fun e w' => ∃ rp rc, e = .returned (.slice rp (l.take n ++ l).length rc) ∧ OwnRunes 21 w.heap.size w' rp rc (l.take n ++ l) ∧ Ext w w' := by
  obtain ⟨i0, hi, hz0, hz1, hz2⟩ := info_parts infoR
  have hlt : (l.take n).length = n := by rw [List.length_take]; omega
  have hll : (l.take n ++ l).length = n + l.length := by rw [List.length_append, hlt]
  have hm0 : ∀ r ∈ l, -2147483648 ≤ r ∧ r ≤ 2147483647 := fun r hr => by
    obtain ⟨j, hj, e⟩ := List.getElem_of_mem hr
    have := h.wf j hj
    rwa [rn_eq hj, e] at this
  have hm : ∀ r ∈ l.take n ++ l, -2147483648 ≤ r ∧ r ≤ 2147483647 := fun r hr => (List.mem_append.1 hr).elim (fun h => hm0 r (List.mem_of_mem_take h)) (hm0 r)
  rcases hp with ⟨b, off, rfl⟩ | ⟨rfl, rfl⟩
  · go_enter Tryd.func31, Tryd.ntmps31
    go_wp2_with (first | (at_builtin; go_loud (refine wpList_append_own _ rfl _ _ 37 rfl w.heap.size 21 i0 (.int .i32 0) 1 4 Tryd.underlying37 hi hz0 hz1 hz2 rfl (by decide) _ _ _ rfl hown1 ⟨b, off, none⟩ l.length c (l.map (Value.int .i32)) rfl (by rw [List.length_map]; omega) (runes_news (h.mono hx1)) (news_one _) (by unfold maxLen; omega) (by omega) hx1.le ?_); intro v2 w2 hown2 hgrow2 _; have hx2 : Ext w w2 := Ext.append hx1 hown1 hgrow2 (Nat.le_refl _); obtain ⟨rp2, rc2, rfl⟩ := ownsRow_slice hown2) | (at_builtin; refine wpList_append_own _ rfl _ _ 37 rfl w.heap.size 21 i0 (.int .i32 0) 1 4 Tryd.underlying37 hi hz0 hz1 hz2 rfl (by decide) _ _ _ rfl (World.ownsRow_nil _ _ _ _) ⟨b, off, none⟩ n c ((l.take n).map (Value.int .i32)) rfl (by rw [List.length_map, hlt]; omega) (runes_news (h.take n)) (news_one _) (by unfold maxLen; omega) (by omega) (Nat.le_refl _) ?_; intro v1 w1 hown1 hgrow1 _; have hx1 : Ext w w1 := Ext.append (Ext.refl _) (World.ownsRow_nil w w.heap.size 21 1) hgrow1 (Nat.le_refl _)))
    go_ret
    rw [Nat.zero_add] at hown2
    refine ⟨rp2, rc2, by rw [hll]; first | done | rfl, ⟨?_, by omega, mem_rn hm⟩, hx2⟩
    · rw [hll, List.map_append]; exact hown2
  · have hl := h.none_
    subst hl
    have hn0 : n = 0 := by simpa using hn
    subst hn0
    go_enter Tryd.func31, Tryd.ntmps31
    go_wp2_with fail
    go_ret
    exact ⟨none, 0, rfl, OwnRunes.nil _ _ _, Ext.refl _⟩

theorem findLetter_bits {A : Alpha} {r : Int} (h : 0 ≤ findLetter A r) : ∃ i : Nat, findLetter A r = i ∧ i < A.lets.length ∧ (A.at_ i).rune = r := by
  obtain ⟨i, h1, h2, h3, _⟩ := findLetter_some h
  exact ⟨i, h1, h2, h3⟩
/-- has a rune the class? -/
def hasL (A : Alpha) (p m : Nat) (r : Int) : Bool := decide (0 ≤ findLetter A r) && likeB (A.at_ (findLetter A r).toNat).plus (A.at_ (findLetter A r).toNat).minus p m

set_option maxHeartbeats 1000000 in
theorem Has03_any (fp lp : Option Addr) (fc lc : Nat) (A : Alpha) (r : Int) (p : Nat) (hp : p < 4294967296) (w : World) (hA : AlphaAt w fp lp A) :
    Calls Tryd.prog 38 #[.agg #[.slice fp A.feats.length fc, .slice lp A.lets.length lc], .int .i32 r, .int .u32 p, .int .u32 0] w fun e w' => e = .returned (.bool (hasL A p 0 r)) ∧ Ext w w' := by
  have hx3 : Ext w (w.alloc (.cells #[.slice fp A.feats.length fc, .slice lp A.lets.length lc] 25)) := (Ext.refl _).alloc _
  have hb := hA.lbig
  by_cases hf : 0 ≤ findLetter A r
  · obtain ⟨i, h1, h2, h3⟩ := findLetter_bits hf
    obtain ⟨wf1, wf2, wf3, wf4⟩ := hA.wf i h2
    have hh : hasL A p 0 r = likeB (A.at_ i).plus (A.at_ i).minus p 0 := by unfold hasL; rw [decide_eq_true hf, Bool.true_and, h1, Int.toNat_natCast]
    rw [hh]
    clear hh
    have F1 := Lib.hid (u32_and_nat (A.at_ i).plus p wf3 hp)
    have e2 : bits .and .u32 ((A.at_ i).minus : Int) 0 = (((A.at_ i).minus &&& 0 : Nat) : Int) := u32_and_nat _ 0 wf4 (by omega)
    have F2 := Lib.hid e2
    clear e2
    have F3 := Lib.hid (Nat.and_comm (A.at_ i).plus p)
    have F4 := Lib.hid (Nat.and_comm (A.at_ i).minus 0)
    go_enter Tryd.func38, Tryd.ntmps38
    go_wp2_with (go_at_call 49; refine (Number_any _ _ _ _ _ _ _ (hA.mono hx3)).mono ?_; rintro e w1 ⟨rfl, hx1⟩; have d1 := hx1.cell0 1; simp at d1; rw [h1]; obtain ⟨b, off, rfl, hbw, c0, c1, c2⟩ := (hA.mono (hx3.trans hx1)).cells h2)
    all_goals go_ret
    all_goals (refine ⟨ret_bool ?_, hx3.trans hx1⟩)
    all_goals (have E1 := F1.out; have E2 := F2.out; have E3 := F3.out; have E4 := F4.out; clear h1 h3 hf; rw [Bool.eq_iff_iff]; simp only [likeB, decide_eq_true_eq, decide_eq_false_iff_not, beq_iff_eq, bne_iff_ne, ne_eq, beq_eq_false_iff_ne, Bool.and_eq_true, Bool.or_eq_true, Bool.false_eq_true, eq_self, true_iff, false_iff] at *; omega)
  · have hh : hasL A p 0 r = false := by unfold hasL; rw [decide_eq_false hf, Bool.false_and]
    have hf2 : decide (0 ≤ findLetter A r) = false := decide_eq_false hf
    rw [hh]
    go_enter Tryd.func38, Tryd.ntmps38
    go_wp2_with (go_at_call 49; refine (Number_any _ _ _ _ _ _ _ (hA.mono hx3)).mono ?_; rintro e w1 ⟨rfl, hx1⟩)
    go_ret
    exact ⟨rfl, hx3.trans hx1⟩

end Go.Proofs.YtcjdpicepjoeoaaDoor
