/- What feature's further calls answer, as plain functions: the least class, a feature's bit, texts written and read. -/
import Derived.Test.YtcnhlogkhnoacaaGreatDoorSpeb
namespace Go.Cg
open Go.RowKit

/-! ### the least class -/
def leastE (A : Alpha) (l : List Int) : Int := if A.Ok then (if 128 < l.length then 4 else if l.length = 0 then 8 else if ∀ i, i < l.length → 0 ≤ findLetter A (rn l i) then 0 else 5) else 7
def landP (A : Alpha) (l : List Int) (s : Nat) : Nat → Nat
  | 0 => s
  | k + 1 => landP A l s k &&& (ofL A (rn l k)).plus
def landM (A : Alpha) (l : List Int) (s : Nat) : Nat → Nat
  | 0 => s
  | k + 1 => landM A l s k &&& (ofL A (rn l k)).minus
def leastP (A : Alpha) (l : List Int) : Nat := if leastE A l = 0 then landP A l 16777215 l.length else 0
def leastM (A : Alpha) (l : List Int) : Nat := if leastE A l = 0 then landM A l 16777215 l.length else 0
theorem landP_lt (A : Alpha) (l : List Int) (s : Nat) (hs : s < 4294967296) : ∀ k, landP A l s k < 4294967296
  | 0 => hs
  | k + 1 => Nat.lt_of_le_of_lt Nat.and_le_left (landP_lt A l s hs k)
theorem landM_lt (A : Alpha) (l : List Int) (s : Nat) (hs : s < 4294967296) : ∀ k, landM A l s k < 4294967296
  | 0 => hs
  | k + 1 => Nat.lt_of_le_of_lt Nat.and_le_left (landM_lt A l s hs k)
theorem landP_start (A : Alpha) (l : List Int) (s t : Nat) (h : s &&& (ofL A (rn l 0)).plus = t &&& (ofL A (rn l 0)).plus) : ∀ k, landP A l s (k + 1) = landP A l t (k + 1)
  | 0 => h
  | k + 1 => by rw [landP, landP_start A l s t h k]; rfl
theorem landM_start (A : Alpha) (l : List Int) (s t : Nat) (h : s &&& (ofL A (rn l 0)).minus = t &&& (ofL A (rn l 0)).minus) : ∀ k, landM A l s (k + 1) = landM A l t (k + 1)
  | 0 => h
  | k + 1 => by rw [landM, landM_start A l s t h k]; rfl
theorem Ok_lt {A : Alpha} (h : A.Ok) {i : Nat} (hi : i < A.lets.length) : (A.at_ i).plus < 2 ^ A.feats.length ∧ (A.at_ i).minus < 2 ^ A.feats.length ∧ (A.at_ i).plus &&& (A.at_ i).minus = 0 := by
  have := (h.2.2.2.2 i hi).2.1
  unfold mayB at this
  simpa using this
theorem ofL_lt {A : Alpha} (h : A.Ok) (r : Int) : (ofL A r).plus < 2 ^ A.feats.length ∧ (ofL A r).minus < 2 ^ A.feats.length ∧ (ofL A r).plus &&& (ofL A r).minus = 0 := by
  by_cases hf : 0 ≤ findLetter A r
  · obtain ⟨i, e, hi, _⟩ := findLetter_some hf
    rw [ofL_ok h e]; exact Ok_lt h hi
  · rw [ofL_none hf]; exact ⟨Nat.two_pow_pos _, Nat.two_pow_pos _, rfl⟩
theorem pow24 {n : Nat} (h : n ≤ 24) : 2 ^ n ≤ 16777216 := by
  have : 2 ^ n ≤ 2 ^ 24 := Nat.pow_le_pow_right (by omega) h
  have e : (2 : Nat) ^ 24 = 16777216 := by decide
  omega
theorem land_mask {A : Alpha} (h : A.Ok) {x : Nat} (hx : x < 2 ^ A.feats.length) : 16777215 &&& x = maskN A.feats.length &&& x := by
  have h24 := pow24 h.1
  have e1 : x &&& 16777215 = x := by
    have := (and_mask_iff (v := x) (n := 24)).2 (by rw [show (2 : Nat) ^ 24 = 16777216 from by decide]; omega)
    simpa using this
  have e2 : x &&& maskN A.feats.length = x := (and_maskN (by omega)).2 hx
  rw [Nat.and_comm, e1, Nat.and_comm, e2]
theorem landP_mask {A : Alpha} (h : A.Ok) (l : List Int) (k : Nat) : landP A l (maskN A.feats.length) (k + 1) = landP A l 16777215 (k + 1) :=
  landP_start A l _ _ (land_mask h (ofL_lt h _).1).symm k
theorem landM_mask {A : Alpha} (h : A.Ok) (l : List Int) (k : Nat) : landM A l (maskN A.feats.length) (k + 1) = landM A l 16777215 (k + 1) :=
  landM_start A l _ _ (land_mask h (ofL_lt h _).2.1).symm k

/-! ### a feature's number and bit -/
def namedI (A : Alpha) (s : ByteArray) : Int := match A.feats.findIdx? (fun f => decide (f = s)) with
  | some i => (i : Int)
  | none => -1
theorem namedI_at {A : Alpha} {s : ByteArray} {k : Nat} (hk : k < A.feats.length) (hno : ∀ j, j < k → A.ft j ≠ s) (he : A.ft k = s) : namedI A s = k := by
  have : A.feats.findIdx? (fun f => decide (f = s)) = some k := by
    rw [List.findIdx?_eq_some_iff_getElem]
    refine ⟨hk, ?_, fun j hj => ?_⟩
    · rw [Alpha.ft_eq hk] at he; simpa using he
    · have := hno j hj; rw [Alpha.ft_eq (by omega)] at this; simpa using this
  simp [namedI, this]
theorem namedI_none {A : Alpha} {s : ByteArray} (hno : ∀ j, j < A.feats.length → A.ft j ≠ s) : namedI A s = -1 := by
  have : A.feats.findIdx? (fun f => decide (f = s)) = none := by
    rw [List.findIdx?_eq_none_iff]
    intro x hx
    obtain ⟨j, hj, rfl⟩ := List.getElem_of_mem hx
    have := hno j hj
    rw [Alpha.ft_eq hj] at this
    simpa using this
  simp [namedI, this]
theorem namedI_cases (A : Alpha) (s : ByteArray) : (∃ k, k < A.feats.length ∧ namedI A s = (k : Int) ∧ A.ft k = s) ∨ namedI A s = -1 := by
  unfold namedI
  cases h : A.feats.findIdx? (fun f => decide (f = s)) with
  | none => exact .inr rfl
  | some i =>
    obtain ⟨h1, h2, _⟩ := List.findIdx?_eq_some_iff_getElem.1 h
    exact .inl ⟨i, h1, rfl, by rw [Alpha.ft_eq h1]; simpa using h2⟩
def bitE (A : Alpha) (s : ByteArray) : Int := if A.Ok then (if 0 ≤ namedI A s then 0 else 8) else 7
def bitV (A : Alpha) (s : ByteArray) : Nat := if bitE A s = 0 then 2 ^ (namedI A s).toNat else 0

/-! ### texts written -/
def textTo (A : Alpha) (p m : Nat) : Nat → ByteArray
  | 0 => ⟨#[]⟩
  | k + 1 => if p.testBit k then textTo A p m k ++ ((⟨#[43]⟩ : ByteArray) ++ A.ft k) else if m.testBit k then textTo A p m k ++ ((⟨#[45]⟩ : ByteArray) ++ A.ft k) else textTo A p m k
def textS (A : Alpha) (p m : Nat) : ByteArray := if classE A p m = 0 then textTo A p m A.feats.length else ⟨#[]⟩
theorem textTo_le {A : Alpha} (hok : A.Ok) (p m : Nat) : ∀ k, k ≤ A.feats.length → (textTo A p m k).size ≤ 33 * k
  | 0, _ => Nat.le_refl _
  | k + 1, h => by
    have ih := textTo_le hok p m k (by omega)
    have hn := (hok.2.2.2.1 k (by omega)).1
    have h32 : (A.ft k).size ≤ 32 := by unfold nameOk at hn; simp at hn; omega
    have e1 : (⟨#[43]⟩ : ByteArray).size = 1 := rfl
    have e2 : (⟨#[45]⟩ : ByteArray).size = 1 := rfl
    unfold textTo
    split
    · rw [ByteArray.size_append, ByteArray.size_append]; omega
    · split
      · rw [ByteArray.size_append, ByteArray.size_append]; omega
      · omega

/-! ### texts read -/
/-- where the row of small letters from i on ends -/
def azEnd (s : ByteArray) (i : Nat) : Nat := i + ((s.data.toList.drop i).takeWhile isAz).length
def byteAt (s : ByteArray) (i : Nat) : Nat := (s.data.toList.getD i 0).toNat
theorem byteAt_eq {s : ByteArray} {i : Nat} (h : i < s.size) : byteAt s i = s[i].toNat := by
  have hl : i < s.data.toList.length := h
  simp only [byteAt, List.getD, List.getElem?_eq_getElem hl, Option.getD_some]
  rfl
theorem azEnd_ge (s : ByteArray) (i : Nat) : i ≤ azEnd s i := Nat.le_add_right _ _
theorem azEnd_le {s : ByteArray} {i : Nat} (h : i ≤ s.size) : azEnd s i ≤ s.size := by
  unfold azEnd
  have h1 := (List.takeWhile_sublist (l := s.data.toList.drop i) isAz).length_le
  rw [List.length_drop] at h1
  have : s.data.toList.length = s.size := rfl
  omega
/-- the row of small letters from i on ends at e -/
theorem azEnd_at {s : ByteArray} {i e : Nat} (h1 : i ≤ e) (h2 : e ≤ s.size) (ha : ∀ j, (hj : j < s.size) → i ≤ j → j < e → isAz s[j] = true) (hb : ∀ hj : e < s.size, isAz s[e] = false) : azEnd s i = e := by
  have hl : s.data.toList.length = s.size := rfl
  have key : ∀ (l : List UInt8) (n : Nat), n ≤ l.length → (∀ j, (hj : j < l.length) → j < n → isAz l[j] = true) → (∀ hj : n < l.length, isAz l[n] = false) → (l.takeWhile isAz).length = n := by
    intro l
    induction l with
    | nil => intro n hn _ _; simp at hn; simp [hn]
    | cons x r ih =>
      intro n hn h1 h2
      cases n with
      | zero =>
        have := h2 (by simp)
        simp only [List.getElem_cons_zero] at this
        simp [this]
      | succ n =>
        have hx := h1 0 (by simp) (by omega)
        simp only [List.getElem_cons_zero] at hx
        rw [List.takeWhile_cons, if_pos hx, List.length_cons, ih n (by simpa using hn) (fun j hj hjn => by
          have := h1 (j + 1) (by simpa using hj) (by omega)
          simpa using this) (fun hj => by
          have := h2 (by simpa using hj)
          simpa using this)]
  unfold azEnd
  rw [key _ (e - i) (by rw [List.length_drop]; omega) (fun j hj hjn => by
    rw [List.length_drop] at hj
    have := ha (i + j) (by omega) (by omega) (by omega)
    rw [List.getElem_drop]; exact this) (fun hj => by
    rw [List.length_drop] at hj
    have := hb (by omega)
    rw [List.getElem_drop]
    have e2 : i + (e - i) = e := by omega
    simp only [e2]; exact this)]
  omega
/-- the reading, from place at on, with what has been read -/
def parseGo (A : Alpha) (s : ByteArray) : Nat → Nat → Nat → Nat → Nat × Nat × Nat × Int
  | 0, _, p, m => (p, m, 0, 0)
  | f + 1, at_, p, m =>
    if at_ < s.size then
      if (byteAt s at_ = 43 ∨ byteAt s at_ = 45) ∧ 0 ≤ namedI A (s.extract (at_ + 1) (azEnd s (at_ + 1))) ∧ (p ||| m).testBit (namedI A (s.extract (at_ + 1) (azEnd s (at_ + 1)))).toNat = false then
        if byteAt s at_ = 43 then parseGo A s f (azEnd s (at_ + 1)) (p ||| 2 ^ (namedI A (s.extract (at_ + 1) (azEnd s (at_ + 1)))).toNat) m
        else parseGo A s f (azEnd s (at_ + 1)) p (m ||| 2 ^ (namedI A (s.extract (at_ + 1) (azEnd s (at_ + 1)))).toNat)
      else (0, 0, at_, 20)
    else (p, m, 0, 0)
def parseR (A : Alpha) (s : ByteArray) : Nat × Nat × Nat × Int := if A.Ok then (if s.size ≤ 65536 then parseGo A s s.size 0 0 0 else (0, 0, 0, 3)) else (0, 0, 0, 7)

end Go.Cg
