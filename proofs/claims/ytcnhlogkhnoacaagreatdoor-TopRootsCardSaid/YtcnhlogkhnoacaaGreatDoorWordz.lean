/- Words: pieces of a text, letters of a word, as plain functions. -/
import Derived.Test.YtcnhlogkhnoacaaGreatDoorOwnb
import Derived.Lib.OthersKept
import Derived.Shelf.Unicode.DecodeAny
import Derived.Lib.PathFns
namespace Go.Cg
open Go.RowKit Go.Lib

theorem get!_extract (s : ByteArray) (a b i : Nat) (h : i < b - a) (hb : b ≤ s.size) : (s.extract a b).get! i = s.get! (a + i) := by
  have h1 : i < (s.extract a b).size := by rw [ByteArray.size_extract]; omega
  rw [Go.Proofs.Utf8W.get!_of_lt _ _ h1, Go.Proofs.Utf8W.get!_of_lt _ _ (by omega), ByteArray.getElem_extract]
/-- only bytes that are there are asked -/
theorem decodeN_cong (n b0 b1 b2 b3 c1 c2 c3 : Nat) (h1 : 1 < n → b1 = c1) (h2 : 2 < n → b2 = c2) (h3 : 3 < n → b3 = c3) : decodeN n b0 b1 b2 b3 = decodeN n b0 c1 c2 c3 := by
  by_cases h : 3 < n
  · rw [h1 (by omega), h2 (by omega), h3 h]
  · by_cases h' : 2 < n
    · rw [h1 (by omega), h2 h']; unfold decodeN; simp [h]
    · by_cases h'' : 1 < n
      · rw [h1 h'']; unfold decodeN; simp [h, h']
      · unfold decodeN; simp [h, h', h'']
theorem decodeN_far (n m b0 b1 b2 b3 : Nat) (hn : 4 ≤ n) (hm : 4 ≤ m) : decodeN n b0 b1 b2 b3 = decodeN m b0 b1 b2 b3 := by
  have a1 : (1 < n) = (1 < m) := propext ⟨fun _ => by omega, fun _ => by omega⟩
  have a2 : (2 < n) = (2 < m) := propext ⟨fun _ => by omega, fun _ => by omega⟩
  have a3 : (3 < n) = (3 < m) := propext ⟨fun _ => by omega, fun _ => by omega⟩
  unfold decodeN; simp only [a1, a2, a3]
theorem decode_tail (s : ByteArray) (a i : Nat) (h : a + i < s.size) : Utf8.decode (s.extract a s.size) i = Utf8.decode s (a + i) := by
  rw [Lib.decode_at, Lib.decode_at]
  have hs : (s.extract a s.size).size - i = s.size - (a + i) := by rw [ByteArray.size_extract]; omega
  rw [hs, get!_extract s a s.size i (by omega) (Nat.le_refl _)]
  refine decodeN_cong _ _ _ _ _ _ _ _ (fun h1 => ?_) (fun h1 => ?_) (fun h1 => ?_)
  · rw [get!_extract s a s.size (i + 1) (by omega) (Nat.le_refl _), Nat.add_assoc]
  · rw [get!_extract s a s.size (i + 2) (by omega) (Nat.le_refl _), Nat.add_assoc]
  · rw [get!_extract s a s.size (i + 3) (by omega) (Nat.le_refl _), Nat.add_assoc]
theorem decode_head (s : ByteArray) (n i : Nat) (hn : n ≤ s.size) (h : i + 4 ≤ n) : Utf8.decode (s.extract 0 n) i = Utf8.decode s i := by
  rw [Lib.decode_at, Lib.decode_at]
  have hs : (s.extract 0 n).size = n := by rw [ByteArray.size_extract]; omega
  rw [hs, get!_extract s 0 n i (by omega) hn, get!_extract s 0 n (i + 1) (by omega) hn, get!_extract s 0 n (i + 2) (by omega) hn, get!_extract s 0 n (i + 3) (by omega) hn]
  simp only [Nat.zero_add]
  exact decodeN_far _ _ _ _ _ _ (by omega) (by omega)
/-- what DecodeRuneInString answers of a text's end -/
theorem decodeGo_tail (s : ByteArray) (a : Nat) (h : a < s.size) : Lib.decodeGo (s.extract a s.size) = Utf8.decode s a := by
  have hs : ¬ (s.extract a s.size).size = 0 := by rw [ByteArray.size_extract]; omega
  unfold Lib.decodeGo
  rw [if_neg hs, decode_tail s a 0 (by omega), Nat.add_zero]
theorem width_pos (s : ByteArray) (pos : Nat) (h : pos < s.size) : 1 ≤ (Utf8.decode s pos).2 := by
  by_cases ha : (s[pos]'h).toNat < 128
  · rw [decode_ascii s pos h ha]; exact Nat.le_refl _
  · exact (decode_high s pos h (by omega)).2
theorem width_le4 (s : ByteArray) (pos : Nat) : (Utf8.decode s pos).2 ≤ 4 := by
  rw [Lib.decode_at]; unfold decodeN
  repeat' split
  all_goals simp
theorem width_le (s : ByteArray) (pos : Nat) (h : pos < s.size) : pos + (Utf8.decode s pos).2 ≤ s.size := by
  have : (Utf8.decode s pos).2 ≤ s.size - pos := by
    rw [Lib.decode_at]; unfold decodeN
    repeat' split
    all_goals simp
    all_goals omega
  omega

/-- is the rune at a place a byte that is no part of one? -/
def badAt (s : ByteArray) (pos : Nat) : Bool := ((Utf8.decode s pos).1 == 65533) && ((Utf8.decode s pos).2 == 1)
def runeAt (s : ByteArray) (pos : Nat) : Int := ((Utf8.decode s pos).1 : Nat)
theorem runeAt_range (s : ByteArray) (pos : Nat) : 0 ≤ runeAt s pos ∧ runeAt s pos ≤ 2147483647 := by
  have := decode_le s pos; unfold runeAt; omega

/-- the letters from a place on, behind those that are read -/
def spellFrom (A : Alpha) (s : ByteArray) : Nat → Nat → List Int → List Int × Int
  | 0, _, acc => (acc, 0)
  | f + 1, pos, acc =>
    if pos < s.size then
      (if badAt s pos = true then ([], 6)
       else if findLetter A (runeAt s pos) < 0 then ([], 5)
       else if acc.length = 64 then ([], 4)
       else spellFrom A s f (pos + (Utf8.decode s pos).2) (acc ++ [runeAt s pos]))
    else (acc, 0)
def spell (A : Alpha) (s : ByteArray) : List Int × Int := if A.Ok then spellFrom A s s.size 0 [] else ([], 7)
theorem spellFrom_end (A : Alpha) (s : ByteArray) (f pos : Nat) (acc : List Int) (h : ¬ pos < s.size) : spellFrom A s f pos acc = (acc, 0) := by
  cases f with
  | zero => rfl
  | succ f => rw [spellFrom, if_neg h]
theorem spellFrom_bad (A : Alpha) (s : ByteArray) (f pos : Nat) (acc : List Int) (h : pos < s.size) (hb : badAt s pos = true) : spellFrom A s (f + 1) pos acc = ([], 6) := by
  rw [spellFrom, if_pos h, if_pos hb]
theorem spellFrom_none (A : Alpha) (s : ByteArray) (f pos : Nat) (acc : List Int) (h : pos < s.size) (hb : badAt s pos = false) (hn : findLetter A (runeAt s pos) < 0) : spellFrom A s (f + 1) pos acc = ([], 5) := by
  rw [spellFrom, if_pos h, if_neg (by rw [hb]; decide), if_pos hn]
theorem spellFrom_many (A : Alpha) (s : ByteArray) (f pos : Nat) (acc : List Int) (h : pos < s.size) (hb : badAt s pos = false) (hn : ¬ findLetter A (runeAt s pos) < 0) (hl : acc.length = 64) : spellFrom A s (f + 1) pos acc = ([], 4) := by
  rw [spellFrom, if_pos h, if_neg (by rw [hb]; decide), if_neg hn, if_pos hl]
theorem spellFrom_step (A : Alpha) (s : ByteArray) (f pos : Nat) (acc : List Int) (h : pos < s.size) (hb : badAt s pos = false) (hn : ¬ findLetter A (runeAt s pos) < 0) (hl : ¬ acc.length = 64) : spellFrom A s (f + 1) pos acc = spellFrom A s f (pos + (Utf8.decode s pos).2) (acc ++ [runeAt s pos]) := by
  rw [spellFrom, if_pos h, if_neg (by rw [hb]; decide), if_neg hn, if_neg hl]
/-- more fuel is no matter -/
theorem spellFrom_fuel (A : Alpha) (s : ByteArray) : ∀ (f g pos : Nat) (acc : List Int), s.size ≤ pos + f → s.size ≤ pos + g → spellFrom A s f pos acc = spellFrom A s g pos acc
  | 0, g, pos, acc, hf, _ => by rw [spellFrom_end _ _ _ _ _ (by omega), spellFrom_end _ _ _ _ _ (by omega)]
  | f + 1, 0, pos, acc, _, hg => by rw [spellFrom_end _ _ _ _ _ (by omega), spellFrom_end _ _ _ _ _ (by omega)]
  | f + 1, g + 1, pos, acc, hf, hg => by
    by_cases h : pos < s.size
    · have := width_pos s pos h
      rw [spellFrom, spellFrom, spellFrom_fuel A s f g _ _ (by omega) (by omega)]
    · rw [spellFrom_end _ _ _ _ _ h, spellFrom_end _ _ _ _ _ h]
/-- of a text of more than 65536 bytes its beginning tells -/
theorem spellFrom_head (A : Alpha) (s : ByteArray) (hs : 65536 < s.size) : ∀ (d pos : Nat) (acc : List Int) (f g : Nat), 64 ≤ acc.length + d → acc.length ≤ 64 → pos ≤ 4 * acc.length → s.size ≤ pos + f → 65536 ≤ pos + g → spellFrom A (s.extract 0 65536) g pos acc = spellFrom A s f pos acc
  | d, pos, acc, 0, g, hd, ha, hp, hf, hg => by omega
  | d, pos, acc, f + 1, 0, hd, ha, hp, hf, hg => by omega
  | d, pos, acc, f + 1, g + 1, hd, ha, hp, hf, hg => by
    have hz : (s.extract 0 65536).size = 65536 := by rw [ByteArray.size_extract]; omega
    have hdec := decode_head s 65536 pos (by omega) (by omega)
    have e1 : badAt (s.extract 0 65536) pos = badAt s pos := by unfold badAt; rw [hdec]
    have e2 : runeAt (s.extract 0 65536) pos = runeAt s pos := by unfold runeAt; rw [hdec]
    have hw := width_pos s pos (by omega)
    have hw4 := width_le4 s pos
    rw [spellFrom, spellFrom, if_pos (show pos < (s.extract 0 65536).size by omega), if_pos (show pos < s.size by omega), e1, e2, hdec]
    by_cases h64 : acc.length = 64
    · simp [h64]
    · match d with
      | 0 => omega
      | d + 1 => rw [spellFrom_head A s hs d (pos + (Utf8.decode s pos).2) (acc ++ [runeAt s pos]) f g (by simp; omega) (by simp; omega) (by simp; omega) (by omega) (by omega)]
theorem spell_head (A : Alpha) (s : ByteArray) (hs : 65536 < s.size) : spell A (s.extract 0 65536) = spell A s := by
  unfold spell
  rw [spellFrom_head A s hs 64 0 [] s.size _ (by simp) (by simp) (by simp) (by omega) (by rw [ByteArray.size_extract]; omega)]
end Go.Cg
