/- Plain law: a class's text is read as it; what is read may be a class. -/
import Derived.Test.YtnngljflnfjppaaDoorFelz
namespace Go.Cg
open Go.RowKit

theorem dl_append (a b : ByteArray) : (a ++ b).data.toList = a.data.toList ++ b.data.toList := by rw [ByteArray.data_append, Array.toList_append]
theorem dl_length (s : ByteArray) : s.data.toList.length = s.size := rfl
theorem ba_ext {a b : ByteArray} (h : a.data.toList = b.data.toList) : a = b := by
  have h2 : a.data = b.data := Array.toList_inj.1 h
  cases a; cases b; simp_all
theorem dl_extract (s : ByteArray) (i j : Nat) : (s.extract i j).data.toList = (s.data.toList.drop i).take (j - i) := by
  rw [ByteArray.data_extract, Array.toList_extract, List.extract_eq_take_drop]
theorem ft_az {A : Alpha} (hok : A.Ok) {k : Nat} (hk : k < A.feats.length) : (A.ft k).data.toList.all isAz = true := by
  have := (hok.2.2.2.1 k hk).1
  unfold nameOk at this
  simp only [Bool.and_eq_true] at this
  exact this.2

/-- what stands behind the first features' part begins with a sign -/
theorem text_tail (A : Alpha) (p m k : Nat) : ∀ d, ∃ tl, (textTo A p m (k + d)).data.toList = (textTo A p m k).data.toList ++ tl ∧ (tl = [] ∨ ∃ c r, tl = c :: r ∧ isAz c = false)
  | 0 => ⟨[], by simp, .inl rfl⟩
  | d + 1 => by
    obtain ⟨tl, h1, h2⟩ := text_tail A p m k d
    have go : ∀ (c : UInt8) (x : ByteArray), isAz c = false → ∃ tl, (textTo A p m (k + d) ++ ((⟨#[c]⟩ : ByteArray) ++ x)).data.toList = (textTo A p m k).data.toList ++ tl ∧ (tl = [] ∨ ∃ c r, tl = c :: r ∧ isAz c = false) := by
      intro c x hc
      refine ⟨tl ++ (c :: x.data.toList), ?_, .inr ?_⟩
      · rw [dl_append, dl_append, h1]; simp
      · rcases h2 with rfl | ⟨c', r, rfl, hc'⟩
        · exact ⟨c, _, by simp; rfl, hc⟩
        · exact ⟨c', _, by simp; rfl, hc'⟩
    rw [show k + (d + 1) = (k + d) + 1 by omega]
    have st : textTo A p m (k + d + 1) = if p.testBit (k + d) then textTo A p m (k + d) ++ ((⟨#[43]⟩ : ByteArray) ++ A.ft (k + d)) else if m.testBit (k + d) then textTo A p m (k + d) ++ ((⟨#[45]⟩ : ByteArray) ++ A.ft (k + d)) else textTo A p m (k + d) := rfl
    rw [st]
    split
    · exact go 43 _ (by decide)
    · split
      · exact go 45 _ (by decide)
      · exact ⟨tl, h1, h2⟩
theorem takeWhile_az {N tl : List UInt8} (hN : N.all isAz = true) (ht : tl = [] ∨ ∃ c r, tl = c :: r ∧ isAz c = false) : (N ++ tl).takeWhile isAz = N := by
  induction N with
  | nil =>
    rcases ht with rfl | ⟨c, r, rfl, hc⟩
    · rfl
    · simp [hc]
  | cons x N ih =>
    rw [List.all_cons, Bool.and_eq_true] at hN
    rw [List.cons_append, List.takeWhile_cons, if_pos hN.1, ih hN.2]
theorem mod_bit (p k : Nat) : p % 2 ^ (k + 1) = if p.testBit k then (p % 2 ^ k) ||| 2 ^ k else p % 2 ^ k := by
  apply Nat.eq_of_testBit_eq; intro i
  split
  · rename_i h
    rw [Nat.testBit_or, Nat.testBit_mod_two_pow, Nat.testBit_mod_two_pow, Nat.testBit_two_pow]
    by_cases e : k = i
    · subst e; simp [h]
    · have e1 : decide (i < k + 1) = decide (i < k) := by by_cases hi : i < k <;> simp [hi] <;> omega
      rw [e1]; simp [e]
  · rename_i h
    rw [Nat.testBit_mod_two_pow, Nat.testBit_mod_two_pow]
    by_cases e : k = i
    · subst e; simp at h; simp [h]
    · have e1 : decide (i < k + 1) = decide (i < k) := by by_cases hi : i < k <;> simp [hi] <;> omega
      rw [e1]
theorem or_bit_no (p m k : Nat) : ((p % 2 ^ k) ||| (m % 2 ^ k)).testBit k = false := by
  rw [Nat.testBit_or, Nat.testBit_mod_two_pow, Nat.testBit_mod_two_pow]; simp
theorem namedI_ft {A : Alpha} (hok : A.Ok) {k : Nat} (hk : k < A.feats.length) : namedI A (A.ft k) = k :=
  namedI_at hk (fun j hj => (hok.2.2.2.1 k hk).2 j hj) rfl
/-- one sign and its feature, read -/
theorem parse_sign {A : Alpha} (hok : A.Ok) {k : Nat} (hk : k < A.feats.length) {s : ByteArray} {T tl : List UInt8} {c : UInt8} (hs : s.data.toList = T ++ (c :: (A.ft k).data.toList) ++ tl) (hc : c.toNat = 43 ∨ c.toNat = 45)
    (ht : tl = [] ∨ ∃ c r, tl = c :: r ∧ isAz c = false) (f p m : Nat) (hb : (p ||| m).testBit k = false) :
    parseGo A s (f + 1) T.length p m = if c.toNat = 43 then parseGo A s f (T ++ (c :: (A.ft k).data.toList)).length (p ||| 2 ^ k) m else parseGo A s f (T ++ (c :: (A.ft k).data.toList)).length p (m ||| 2 ^ k) := by
  have hlen : s.size = T.length + (1 + (A.ft k).data.toList.length) + tl.length := by rw [← dl_length, hs]; simp; omega
  have hby : byteAt s T.length = c.toNat := by unfold byteAt; rw [hs]; simp
  have hdrop : s.data.toList.drop (T.length + 1) = (A.ft k).data.toList ++ tl := by
    rw [hs, List.append_assoc, List.drop_append]; simp
  have haz : azEnd s (T.length + 1) = (T ++ (c :: (A.ft k).data.toList)).length := by
    unfold azEnd; rw [hdrop, takeWhile_az (ft_az hok hk) ht]; simp; omega
  have hex : s.extract (T.length + 1) (azEnd s (T.length + 1)) = A.ft k := by
    apply ba_ext
    rw [dl_extract, hdrop, haz]
    rw [List.take_append_of_le_length (by simp; omega)]
    exact List.take_of_length_le (by simp; omega)
  rw [parseGo, if_pos (by omega), hex, namedI_ft hok hk, hby, haz, if_pos ⟨hc, by omega, hb⟩]
  rfl
theorem parse_text {A : Alpha} (hok : A.Ok) {p m : Nat} (hmay : mayB A.feats.length p m = true) : ∀ d k, k + d = A.feats.length → ∀ f, (textTo A p m A.feats.length).size ≤ (textTo A p m k).size + f →
    parseGo A (textTo A p m A.feats.length) f (textTo A p m k).size (p % 2 ^ k) (m % 2 ^ k) = (p, m, 0, 0)
  | 0, k, e, f, hf => by
    have ek : k = A.feats.length := by omega
    unfold mayB at hmay
    simp only [decide_eq_true_eq] at hmay
    rw [ek, Nat.mod_eq_of_lt hmay.1, Nat.mod_eq_of_lt hmay.2.1]
    cases f with
    | zero => rfl
    | succ f => rw [parseGo, if_neg (by omega)]
  | d + 1, k, e, f, hf => by
    have hk : k < A.feats.length := by omega
    have ih := parse_text hok hmay d (k + 1) (by omega)
    obtain ⟨tl, h1, h2⟩ := text_tail A p m (k + 1) d
    rw [show k + 1 + d = A.feats.length by omega] at h1
    have hm : p &&& m = 0 := by
      unfold mayB at hmay
      simp only [decide_eq_true_eq] at hmay
      exact hmay.2.2
    have key : ∀ c : UInt8, textTo A p m (k + 1) = textTo A p m k ++ ((⟨#[c]⟩ : ByteArray) ++ A.ft k) → (c.toNat = 43 ∨ c.toNat = 45) →
        (p % 2 ^ (k + 1) = if c.toNat = 43 then (p % 2 ^ k) ||| 2 ^ k else p % 2 ^ k) → (m % 2 ^ (k + 1) = if c.toNat = 43 then m % 2 ^ k else (m % 2 ^ k) ||| 2 ^ k) →
        parseGo A (textTo A p m A.feats.length) f (textTo A p m k).size (p % 2 ^ k) (m % 2 ^ k) = (p, m, 0, 0) := by
      intro c hc hcc hpp hmm
      have hl : (textTo A p m (k + 1)).data.toList = (textTo A p m k).data.toList ++ (c :: (A.ft k).data.toList) := by rw [hc, dl_append, dl_append]; rfl
      have hz : (textTo A p m (k + 1)).size = ((textTo A p m k).data.toList ++ (c :: (A.ft k).data.toList)).length := by rw [← dl_length, hl]
      have hz2 : (textTo A p m A.feats.length).size = (textTo A p m (k + 1)).size + tl.length := by rw [← dl_length, h1, List.length_append, dl_length]
      cases f with
      | zero =>
        exfalso
        rw [hz2, hz, List.length_append, dl_length, List.length_cons] at hf
        omega
      | succ f =>
        rw [hl] at h1
        have := parse_sign hok hk h1 hcc h2 f (p % 2 ^ k) (m % 2 ^ k) (or_bit_no p m k)
        rw [dl_length] at this
        rw [this]
        rw [← hz]
        have hfe : (textTo A p m A.feats.length).size ≤ (textTo A p m (k + 1)).size + f := by
          rw [hz, List.length_append, dl_length, List.length_cons]
          omega
        have := ih f hfe
        rw [hpp, hmm] at this
        by_cases e43 : c.toNat = 43
        · rw [if_pos e43]; rw [if_pos e43, if_pos e43] at this; exact this
        · rw [if_neg e43]; rw [if_neg e43, if_neg e43] at this; exact this
    have mp := mod_bit p k
    have mm := mod_bit m k
    cases hp : p.testBit k
    · rw [hp] at mp
      cases hq : m.testBit k
      · rw [hq] at mm
        have e1 : textTo A p m (k + 1) = textTo A p m k := by rw [textTo, hp, hq]; rfl
        rw [e1] at ih
        have := ih f hf
        rw [mp, mm] at this
        exact this
      · rw [hq] at mm
        exact key 45 (by rw [textTo, hp, hq]; rfl) (.inr (by decide)) (by rw [mp]; rfl) (by rw [mm]; rfl)
    · rw [hp] at mp
      have hq : m.testBit k = false := by
        have := congrArg (fun x => x.testBit k) hm
        simp only [Nat.testBit_and, hp, Nat.zero_testBit, Bool.true_and] at this
        exact this
      rw [hq] at mm
      exact key 43 (by rw [textTo, hp]; rfl) (.inl (by decide)) (by rw [mp]; rfl) (by rw [mm]; rfl)
/-- a class's text is read as it -/
theorem parse_of_text {A : Alpha} (hok : A.Ok) {p m : Nat} (hmay : mayB A.feats.length p m = true) : parseR A (textS A p m) = (p, m, 0, 0) := by
  have hl := textTo_le hok p m A.feats.length (Nat.le_refl _)
  have h24 := hok.1
  unfold parseR textS
  rw [if_pos (classE_zero hok hmay), if_pos hok, if_pos (by omega)]
  have := parse_text hok hmay A.feats.length 0 (by omega) (textTo A p m A.feats.length).size (by omega)
  have e0 : (textTo A p m 0).size = 0 := rfl
  rw [e0, Nat.pow_zero, Nat.mod_one, Nat.mod_one] at this
  exact this

theorem may_or {n p m i : Nat} (h : mayB n p m = true) (hi : i < n) (hb : (p ||| m).testBit i = false) : mayB n (p ||| 2 ^ i) m = true ∧ mayB n p (m ||| 2 ^ i) = true := by
  unfold mayB at h ⊢
  simp only [decide_eq_true_eq] at h ⊢
  rw [Nat.testBit_or, Bool.or_eq_false_iff] at hb
  have h2 : 2 ^ i < 2 ^ n := Nat.pow_lt_pow_right (by omega) hi
  have hz : ∀ j, (p.testBit j && m.testBit j) = false := fun j => by
    have := congrArg (fun x => x.testBit j) h.2.2
    simpa using this
  refine ⟨⟨Nat.or_lt_two_pow h.1 h2, h.2.1, ?_⟩, ⟨h.1, Nat.or_lt_two_pow h.2.1 h2, ?_⟩⟩
  · apply Nat.eq_of_testBit_eq; intro j
    have := hz j
    rw [Nat.testBit_and, Nat.testBit_or, Nat.testBit_two_pow, Nat.zero_testBit]
    by_cases e : i = j
    · subst e; rw [hb.2]; simp
    · simp only [e, decide_false, Bool.or_false]; exact this
  · apply Nat.eq_of_testBit_eq; intro j
    have := hz j
    rw [Nat.testBit_and, Nat.testBit_or, Nat.testBit_two_pow, Nat.zero_testBit]
    by_cases e : i = j
    · subst e; rw [hb.1]; simp
    · simp only [e, decide_false, Bool.or_false]; exact this
/-- what is read may be a class; an error's place lies in the text -/
theorem parseGo_may {A : Alpha} (s : ByteArray) : ∀ f at_ p m, mayB A.feats.length p m = true → 
    ((parseGo A s f at_ p m).2.2.2 = 0 ∧ mayB A.feats.length (parseGo A s f at_ p m).1 (parseGo A s f at_ p m).2.1 = true ∧ (parseGo A s f at_ p m).2.2.1 = 0) ∨
    ((parseGo A s f at_ p m).2.2.2 = 20 ∧ (parseGo A s f at_ p m).1 = 0 ∧ (parseGo A s f at_ p m).2.1 = 0 ∧ (parseGo A s f at_ p m).2.2.1 ≤ s.size)
  | 0, at_, p, m, h => .inl ⟨rfl, h, rfl⟩
  | f + 1, at_, p, m, h => by
    rw [parseGo]
    split
    · split
      · rename_i h1 h2
        obtain ⟨_, hn, hb⟩ := h2
        rcases namedI_cases A (s.extract (at_ + 1) (azEnd s (at_ + 1))) with ⟨k, hk, e, _⟩ | e
        · rw [e] at hb ⊢
          simp only [Int.toNat_natCast] at hb ⊢
          obtain ⟨m1, m2⟩ := may_or h hk hb
          split
          · exact parseGo_may s f _ _ _ m1
          · exact parseGo_may s f _ _ _ m2
        · omega
      · rename_i h1 _
        exact .inr ⟨rfl, rfl, rfl, Nat.le_of_lt h1⟩
    · exact .inl ⟨rfl, h, rfl⟩
theorem may_zero (n : Nat) : mayB n 0 0 = true := by
  unfold mayB; simp only [decide_eq_true_eq]; exact ⟨Nat.two_pow_pos _, Nat.two_pow_pos _, rfl⟩
end Go.Cg
