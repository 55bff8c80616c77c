/- Plain laws of classes: the least class, classes within classes, the nearest letter, distances. -/
import Derived.Test.YtcnhlogkhnoacaaGreatDoorSpez
namespace Go.Cg
open Go.RowKit

/-! ### the least class -/
theorem landP_and (A : Alpha) (l : List Int) (s : Nat) : ∀ k i, i < k → landP A l s k &&& (ofL A (rn l i)).plus = landP A l s k
  | 0, i, h => by omega
  | k + 1, i, h => by
    rw [landP]
    rcases Nat.lt_or_eq_of_le (Nat.le_of_lt_succ h) with h' | rfl
    · rw [Nat.and_assoc, Nat.and_comm (ofL A (rn l k)).plus, ← Nat.and_assoc, landP_and A l s k i h']
    · rw [Nat.and_assoc, Nat.and_self]
theorem landM_and (A : Alpha) (l : List Int) (s : Nat) : ∀ k i, i < k → landM A l s k &&& (ofL A (rn l i)).minus = landM A l s k
  | 0, i, h => by omega
  | k + 1, i, h => by
    rw [landM]
    rcases Nat.lt_or_eq_of_le (Nat.le_of_lt_succ h) with h' | rfl
    · rw [Nat.and_assoc, Nat.and_comm (ofL A (rn l k)).minus, ← Nat.and_assoc, landM_and A l s k i h']
    · rw [Nat.and_assoc, Nat.and_self]
theorem landP_max (A : Alpha) (l : List Int) (s p : Nat) (hs : p &&& s = p) : ∀ k, (∀ i, i < k → p &&& (ofL A (rn l i)).plus = p) → p &&& landP A l s k = p
  | 0, _ => hs
  | k + 1, h => by rw [landP, ← Nat.and_assoc, landP_max A l s p hs k (fun i hi => h i (by omega)), h k (by omega)]
theorem landM_max (A : Alpha) (l : List Int) (s p : Nat) (hs : p &&& s = p) : ∀ k, (∀ i, i < k → p &&& (ofL A (rn l i)).minus = p) → p &&& landM A l s k = p
  | 0, _ => hs
  | k + 1, h => by rw [landM, ← Nat.and_assoc, landM_max A l s p hs k (fun i hi => h i (by omega)), h k (by omega)]
theorem leastE_zero {A : Alpha} {l : List Int} (h : leastE A l = 0) : A.Ok ∧ l.length ≤ 128 ∧ 0 < l.length ∧ ∀ i, i < l.length → 0 ≤ findLetter A (rn l i) := by
  unfold leastE at h
  split at h
  · rename_i hok
    split at h
    · omega
    · split at h
      · omega
      · split at h
        · rename_i h4; exact ⟨hok, by omega, by omega, h4⟩
        · omega
  · omega
theorem leastE_range (A : Alpha) (l : List Int) : 0 ≤ leastE A l ∧ leastE A l ≤ 8 := by unfold leastE; repeat (first | split | decide)
theorem and_zero_sub {a b x y : Nat} (ha : a &&& x = a) (hb : b &&& y = b) (h : x &&& y = 0) : a &&& b = 0 := by
  rw [← ha, ← hb, Nat.and_assoc, Nat.and_comm b y, ← Nat.and_assoc x, h, Nat.zero_and, Nat.and_zero]
theorem least_may {A : Alpha} {l : List Int} (h : leastE A l = 0) : mayB A.feats.length (leastP A l) (leastM A l) = true := by
  obtain ⟨hok, h1, h2, h3⟩ := leastE_zero h
  have e1 : leastP A l = landP A l 16777215 l.length := if_pos h
  have e2 : leastM A l = landM A l 16777215 l.length := if_pos h
  have a1 := landP_and A l 16777215 l.length 0 h2
  have a2 := landM_and A l 16777215 l.length 0 h2
  obtain ⟨b1, b2, b3⟩ := ofL_lt hok (rn l 0)
  rw [e1, e2]
  unfold mayB
  simp only [decide_eq_true_eq]
  refine ⟨?_, ?_, and_zero_sub a1 a2 b3⟩
  · rw [← a1]; exact Nat.lt_of_le_of_lt Nat.and_le_right b1
  · rw [← a2]; exact Nat.lt_of_le_of_lt Nat.and_le_right b2
theorem least_like {A : Alpha} {l : List Int} (h : leastE A l = 0) {i : Nat} (hi : i < l.length) : likeB (ofL A (rn l i)).plus (ofL A (rn l i)).minus (leastP A l) (leastM A l) = true := by
  have e1 : leastP A l = landP A l 16777215 l.length := if_pos h
  have e2 : leastM A l = landM A l 16777215 l.length := if_pos h
  rw [e1, e2]
  unfold likeB
  simp only [decide_eq_true_eq]
  exact ⟨landP_and A l _ _ i hi, landM_and A l _ _ i hi⟩
theorem sub24 {p n : Nat} (hn : n ≤ 24) (h : p < 2 ^ n) : p &&& 16777215 = p := by
  have h24 := pow24 hn
  have := (and_mask_iff (v := p) (n := 24)).2 (by rw [show (2 : Nat) ^ 24 = 16777216 from by decide]; omega)
  simpa using this
theorem least_max {A : Alpha} {l : List Int} (h : leastE A l = 0) {p m : Nat} (hp : p < 2 ^ A.feats.length) (hm : m < 2 ^ A.feats.length)
    (ha : ∀ i, i < l.length → likeB (ofL A (rn l i)).plus (ofL A (rn l i)).minus p m = true) : p &&& leastP A l = p ∧ m &&& leastM A l = m := by
  obtain ⟨hok, h1, h2, h3⟩ := leastE_zero h
  have e1 : leastP A l = landP A l 16777215 l.length := if_pos h
  have e2 : leastM A l = landM A l 16777215 l.length := if_pos h
  rw [e1, e2]
  have ha' : ∀ i, i < l.length → p &&& (ofL A (rn l i)).plus = p ∧ m &&& (ofL A (rn l i)).minus = m := fun i hi => by
    have := ha i hi
    unfold likeB at this
    simpa using this
  exact ⟨landP_max A l _ p (sub24 hok.1 hp) _ fun i hi => (ha' i hi).1, landM_max A l _ m (sub24 hok.1 hm) _ fun i hi => (ha' i hi).2⟩

/-! ### classes within classes -/
theorem like_sub {lp lm p m p' m' : Nat} (h : likeB lp lm p m = true) : likeB lp lm (p &&& p') (m &&& m') = true := by
  unfold likeB at h ⊢
  simp only [decide_eq_true_eq] at h ⊢
  refine ⟨?_, ?_⟩
  · rw [Nat.and_assoc, Nat.and_comm p', ← Nat.and_assoc, h.1]
  · rw [Nat.and_assoc, Nat.and_comm m', ← Nat.and_assoc, h.2]
theorem classTo_sub (A : Alpha) (p m p' m' : Nat) : ∀ k, (classTo A p m k).Sublist (classTo A (p &&& p') (m &&& m') k)
  | 0 => List.Sublist.refl _
  | k + 1 => by
    have ih := classTo_sub A p m p' m' k
    unfold classTo
    cases h : likeB (A.at_ k).plus (A.at_ k).minus p m
    · rw [if_neg (by simp)]
      split
      · exact ih.trans (List.sublist_append_left _ _)
      · exact ih
    · rw [if_pos rfl, if_pos (like_sub h)]
      exact ih.append (List.Sublist.refl _)
theorem classE_zero {A : Alpha} (h : A.Ok) {p m : Nat} (hm : mayB A.feats.length p m = true) : classE A p m = 0 := by unfold classE; rw [if_pos h, if_pos hm]
theorem may_sub {n p m p' m' : Nat} (h : mayB n p m = true) : mayB n (p &&& p') (m &&& m') = true := by
  unfold mayB at h ⊢
  simp only [decide_eq_true_eq] at h ⊢
  exact ⟨Nat.lt_of_le_of_lt Nat.and_le_left h.1, Nat.lt_of_le_of_lt Nat.and_le_left h.2.1, and_zero_sub (x := p) (y := m) (by rw [Nat.and_assoc, Nat.and_comm p', ← Nat.and_assoc, Nat.and_self]) (by rw [Nat.and_assoc, Nat.and_comm m', ← Nat.and_assoc, Nat.and_self]) h.2.2⟩
/-- a row within another: one step of looking for it -/
theorem sub_step {c d : List Int} {i k : Nat} (hi : i < d.length) (hk : k < c.length) (h : (c.drop k).Sublist (d.drop i)) : (rn d i = rn c k → (c.drop (k + 1)).Sublist (d.drop (i + 1))) ∧ (rn d i ≠ rn c k → (c.drop k).Sublist (d.drop (i + 1))) := by
  rw [rn_eq hi, rn_eq hk]
  rw [List.drop_eq_getElem_cons hi, List.drop_eq_getElem_cons hk] at h
  refine ⟨fun e => ?_, fun e => ?_⟩
  · rw [e] at h; exact List.cons_sublist_cons.1 h
  · rw [List.drop_eq_getElem_cons hk]
    rcases List.sublist_cons_iff.1 h with h | ⟨r, he, _⟩
    · exact h
    · exact absurd (List.cons.inj he).1.symm e
theorem sub_end {c d : List Int} {i k : Nat} (hi : d.length ≤ i) (h : (c.drop k).Sublist (d.drop i)) : c.length ≤ k := by
  rw [List.drop_eq_nil_of_le hi] at h
  have := List.sublist_nil.1 h
  simpa using this

/-! ### the nearest -/
theorem bestIdx_least (f : Nat → Nat) : ∀ k i, i ≤ k → f (bestIdx f k) ≤ f i
  | 0, i, h => by have : i = 0 := by omega
                  subst this; exact Nat.le_refl _
  | k + 1, i, h => by
    have ih := fun j hj => bestIdx_least f k j hj
    unfold bestIdx
    split
    · rcases Nat.lt_or_eq_of_le h with h' | rfl
      · have := ih i (by omega); omega
      · exact Nat.le_refl _
    · rcases Nat.lt_or_eq_of_le h with h' | rfl
      · exact ih i (by omega)
      · omega
theorem bestIdx_first (f : Nat → Nat) : ∀ k i, i < bestIdx f k → f (bestIdx f k) < f i
  | 0, i, h => by simp [bestIdx] at h
  | k + 1, i, h => by
    unfold bestIdx at h ⊢
    split at h
    · rename_i hc
      rw [if_pos hc]
      have := bestIdx_least f k i (by omega)
      omega
    · rename_i hc
      rw [if_neg hc]; exact bestIdx_first f k i h

/-! ### distances -/
theorem pop_mono {a b : Nat} (h : ∀ i, a.testBit i = true → b.testBit i = true) : ∀ k, pop k a ≤ pop k b
  | 0 => Nat.le_refl _
  | k + 1 => by
    rw [pop_succ, pop_succ]
    have ih := pop_mono h k
    cases ha : a.testBit k
    · simp; omega
    · rw [h k ha]; simp; omega
theorem pop_or (a b : Nat) : ∀ k, pop k (a ||| b) ≤ pop k a + pop k b
  | 0 => Nat.zero_le _
  | k + 1 => by
    rw [pop_succ, pop_succ, pop_succ, Nat.testBit_or]
    have ih := pop_or a b k
    cases a.testBit k <;> cases b.testBit k <;> simp <;> omega
theorem unlikeN_comm (xp xm yp ym : Nat) : unlikeN xp xm yp ym = unlikeN yp ym xp xm := by unfold unlikeN; rw [Nat.xor_comm xp, Nat.xor_comm xm]
theorem unlikeN_tri (xp xm yp ym zp zm : Nat) : unlikeN xp xm yp ym ≤ unlikeN xp xm zp zm + unlikeN zp zm yp ym := by
  unfold unlikeN
  refine Nat.le_trans (pop_mono (b := ((xp ^^^ zp) ||| (xm ^^^ zm)) ||| ((zp ^^^ yp) ||| (zm ^^^ ym))) (fun i h => ?_) 32) (pop_or _ _ _)
  simp only [Nat.testBit_or, Nat.testBit_xor] at h ⊢
  generalize xp.testBit i = b1 at h ⊢
  generalize yp.testBit i = b2 at h ⊢
  generalize zp.testBit i = b3 at h ⊢
  generalize xm.testBit i = b4 at h ⊢
  generalize ym.testBit i = b5 at h ⊢
  generalize zm.testBit i = b6 at h ⊢
  revert h b1 b2 b3 b4 b5 b6
  decide
theorem unlikeN_le {n xp xm yp ym : Nat} (hn : n ≤ 24) (h1 : xp < 2 ^ n) (h2 : xm < 2 ^ n) (h3 : yp < 2 ^ n) (h4 : ym < 2 ^ n) : unlikeN xp xm yp ym ≤ n := by
  unfold unlikeN
  rw [pop_of_lt (j := n) (by omega) (Nat.or_lt_two_pow (Nat.xor_lt_two_pow h1 h3) (Nat.xor_lt_two_pow h2 h4))]
  exact pop_le _ _
theorem pop_zero {v : Nat} : ∀ k, pop k v = 0 → ∀ i, i < k → v.testBit i = false
  | 0, _, i, h => by omega
  | k + 1, hz, i, h => by
    rw [pop_succ] at hz
    rcases Nat.lt_or_eq_of_le (Nat.le_of_lt_succ h) with h' | rfl
    · exact pop_zero k (by omega) i h'
    · cases hb : v.testBit i
      · rfl
      · rw [hb] at hz; simp at hz
theorem unlikeN_zero {xp xm yp ym : Nat} (h1 : xp < 4294967296) (h2 : xm < 4294967296) (h3 : yp < 4294967296) (h4 : ym < 4294967296) : unlikeN xp xm yp ym = 0 ↔ xp = yp ∧ xm = ym := by
  constructor
  · intro h
    unfold unlikeN at h
    have hz := pop_zero 32 h
    have e32 : (2 : Nat) ^ 32 = 4294967296 := by decide
    have hv : ((xp ^^^ yp) ||| (xm ^^^ ym)) < 2 ^ 32 := Nat.or_lt_two_pow (Nat.xor_lt_two_pow (by omega) (by omega)) (Nat.xor_lt_two_pow (by omega) (by omega))
    have hb : ∀ i, ((xp ^^^ yp) ||| (xm ^^^ ym)).testBit i = false := fun i => by
      rcases Nat.lt_or_ge i 32 with h | h
      · exact hz i h
      · exact Nat.testBit_lt_two_pow (Nat.lt_of_lt_of_le hv (Nat.pow_le_pow_right (by omega) h))
    constructor
    · apply Nat.eq_of_testBit_eq; intro i
      have := hb i; simp only [Nat.testBit_or, Nat.testBit_xor] at this
      cases h1 : xp.testBit i <;> cases h2 : yp.testBit i <;> simp_all
    · apply Nat.eq_of_testBit_eq; intro i
      have := hb i; simp only [Nat.testBit_or, Nat.testBit_xor] at this
      cases h1 : xm.testBit i <;> cases h2 : ym.testBit i <;> simp_all
  · rintro ⟨rfl, rfl⟩
    unfold unlikeN
    rw [Nat.xor_self, Nat.xor_self]
    decide
theorem farE_comm (A : Alpha) (x y : Int) : farE A x y = farE A y x := by
  unfold farE
  rcases ofE_cases A x with ⟨h, h', _⟩ | ⟨h, h', _⟩ | ⟨h, h'⟩ <;> rcases ofE_cases A y with ⟨k, k', _⟩ | ⟨k, k', _⟩ | ⟨k, k'⟩ <;> simp [h, k] <;> contradiction
theorem farE_zero {A : Alpha} {x y : Int} (h : farE A x y = 0) : ofE A x = 0 ∧ ofE A y = 0 := by
  unfold farE at h
  split at h
  · rename_i hx; exact ⟨hx, h⟩
  · contradiction
theorem farN_comm (A : Alpha) (x y : Int) : farN A x y = farN A y x := by
  unfold farN; rw [farE_comm A y x, unlikeN_comm]
end Go.Cg
