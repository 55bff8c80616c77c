/- Worlds that only gain blocks, alphabets and rows of runes as they lie in memory, small laws on numbers and bits: plain definitions and lemmas, no condition. -/
import Derived.WalkKit
import Derived.WalkSpells
import Derived.WalkLawsBesides
import Derived.Lib.Hide
import Derived.Deep.LoopGhost
import Derived.Deep.QuietTactic
import Derived.BigQuiet
import Derived.Deep.RegionWith
import Derived.Deep.DeepFit
import Derived.Deep.DeepMust
import Derived.Deep.Light
import Derived.Maps.OwnSet
import Derived.Lib.SlTrimSet
namespace Go.Cg
open Go.RowKit

/-- w' is w with more blocks; what was there has not turned. -/
def Ext (w w' : World) : Prop := Below w.heap.size w w'
theorem Ext.refl (w : World) : Ext w w := Below.refl _ _
theorem Ext.trans {a b c : World} (h : Ext a b) (k : Ext b c) : Ext a c := Below.trans h (Below.mono k h.size)
theorem Ext.alloc {a w : World} (h : Ext a w) (o : Obj) : Ext a (w.alloc o) := Below.alloc h h.size o
theorem Ext.drew {a w : World} (h : Ext a w) : Ext a w.drew := Below.drew h
theorem Ext.drewN {a w : World} (h : Ext a w) (n : Nat) : Ext a (w.drewN n) := ⟨h.os, h.tape, h.output, h.size, h.block⟩
theorem Ext.setCell {a w : World} (h : Ext a w) {p : Addr} (hp : a.heap.size ≤ p.block) (u : Value) : Ext a (w.setCell p u) := Below.setCell h hp u
theorem Ext.facts {w w1 : World} (h : Ext w w1) : (∀ b o, b < w.heap.size → w1.cell? ⟨b, o, none⟩ = w.cell? ⟨b, o, none⟩) ∧
    (∀ b o, b < w.heap.size → w1.frozen? ⟨b, o, none⟩ = w.frozen? ⟨b, o, none⟩) ∧ w.heap.size ≤ w1.heap.size :=
  ⟨fun b o hb => Below.cell h (p := ⟨b, o, none⟩) hb, fun b o hb => Below.frozen h (p := ⟨b, o, none⟩) hb, h.size⟩

/-- The array row that starts at p reads, cell by cell, as f. -/
def Reads (w : World) (p : Option Addr) (k : Nat) (f : Nat → Value) : Prop :=
  k = 0 ∨ ∃ b off, p = some ⟨b, off, none⟩ ∧ b < w.heap.size ∧ ∀ j, j < k → w.cell? ⟨b, off + j, none⟩ = some (f j)

theorem Reads.mono {w w' : World} {p : Option Addr} {k : Nat} {f : Nat → Value} (h : Reads w p k f) (hb : Ext w w') : Reads w' p k f := by
  rcases h with h | ⟨b, off, hp, hlt, hc⟩
  · exact .inl h
  · exact .inr ⟨b, off, hp, Nat.lt_of_lt_of_le hlt (Below.size hb), fun j hj => (Below.cell hb (p := ⟨b, off + j, none⟩) hlt).trans (hc j hj)⟩

structure Letter where
  rune : Int
  plus : Nat
  minus : Nat
deriving DecidableEq, Inhabited

structure Alpha where
  feats : List ByteArray
  lets : List Letter

def Letter.wf (l : Letter) : Prop := -2147483648 ≤ l.rune ∧ l.rune ≤ 2147483647 ∧ l.plus < 4294967296 ∧ l.minus < 4294967296

/-- letter i; feature i's name -/
def Alpha.at_ (A : Alpha) (i : Nat) : Letter := A.lets.getD i default
def Alpha.ft (A : Alpha) (i : Nat) : ByteArray := A.feats.getD i ByteArray.empty

theorem Alpha.at_eq {A : Alpha} {i : Nat} (h : i < A.lets.length) : A.at_ i = A.lets[i] := by simp [Alpha.at_, List.getD, h]
theorem Alpha.ft_eq {A : Alpha} {i : Nat} (h : i < A.feats.length) : A.ft i = A.feats[i] := by simp [Alpha.ft, List.getD, h]

/-- cell j of a row of letters -/
def Alpha.letCell (A : Alpha) (j : Nat) : Value :=
  if j % 3 = 0 then .int .i32 (A.at_ (j / 3)).rune
  else if j % 3 = 1 then .int .u32 ((A.at_ (j / 3)).plus : Int)
  else .int .u32 ((A.at_ (j / 3)).minus : Int)

structure AlphaAt (w : World) (fp lp : Option Addr) (A : Alpha) : Prop where
  feats : Reads w fp A.feats.length (fun j => .string (A.ft j))
  lets : Reads w lp (A.lets.length * 3) A.letCell
  fbig : A.feats.length ≤ 8796093022208
  lbig : A.lets.length ≤ 17592186044416
  wf : ∀ i, i < A.lets.length → (A.at_ i).wf
  fwf : ∀ i, i < A.feats.length → (A.ft i).size ≤ 140737488351232

theorem AlphaAt.mono {w w' : World} {fp lp : Option Addr} {A : Alpha} (h : AlphaAt w fp lp A) (hb : Ext w w') : AlphaAt w' fp lp A :=
  ⟨h.feats.mono hb, h.lets.mono hb, h.fbig, h.lbig, h.wf, h.fwf⟩

/-- what letter i's cells are -/
theorem AlphaAt.cells {w : World} {fp lp : Option Addr} {A : Alpha} (h : AlphaAt w fp lp A) {i : Nat} (hi : i < A.lets.length) :
    ∃ b off, lp = some ⟨b, off, none⟩ ∧ b < w.heap.size ∧ w.cell? ⟨b, off + i * 3, none⟩ = some (.int .i32 (A.at_ i).rune) ∧
      w.cell? ⟨b, off + i * 3 + 1, none⟩ = some (.int .u32 ((A.at_ i).plus : Int)) ∧ w.cell? ⟨b, off + i * 3 + 2, none⟩ = some (.int .u32 ((A.at_ i).minus : Int)) := by
  rcases h.lets with h0 | ⟨b, off, hp, hlt, hc⟩
  · omega
  · have e0 := hc (i * 3) (by omega)
    have e1 := hc (i * 3 + 1) (by omega)
    have e2 := hc (i * 3 + 2) (by omega)
    have a0 : A.letCell (i * 3) = .int .i32 (A.at_ i).rune := by
      rw [Alpha.letCell, if_pos (by omega), show i * 3 / 3 = i by omega]
    have a1 : A.letCell (i * 3 + 1) = .int .u32 ((A.at_ i).plus : Int) := by
      rw [Alpha.letCell, if_neg (by omega), if_pos (by omega), show (i * 3 + 1) / 3 = i by omega]
    have a2 : A.letCell (i * 3 + 2) = .int .u32 ((A.at_ i).minus : Int) := by
      rw [Alpha.letCell, if_neg (by omega), if_neg (by omega), show (i * 3 + 2) / 3 = i by omega]
    rw [a0] at e0; rw [a1] at e1; rw [a2] at e2
    exact ⟨b, off, hp, hlt, e0, e1, e2⟩

/-- a rune's number among the letters; -1: it is none -/
def findLetter (A : Alpha) (r : Int) : Int := match A.lets.findIdx? (fun l => l.rune == r) with
  | some i => (i : Int)
  | none => -1

theorem findLetter_at {A : Alpha} {r : Int} {k : Nat} (hk : k < A.lets.length) (hno : ∀ j, j < k → (A.at_ j).rune ≠ r) (he : (A.at_ k).rune = r) : findLetter A r = k := by
  have : A.lets.findIdx? (fun l => l.rune == r) = some k := by
    rw [List.findIdx?_eq_some_iff_getElem]
    refine ⟨hk, ?_, fun j hj => ?_⟩
    · rw [Alpha.at_eq hk] at he; simpa using he
    · have := hno j hj; rw [Alpha.at_eq (by omega)] at this; simpa using this
  simp [findLetter, this]
theorem findLetter_none {A : Alpha} {r : Int} (hno : ∀ j, j < A.lets.length → (A.at_ j).rune ≠ r) : findLetter A r = -1 := by
  have : A.lets.findIdx? (fun l => l.rune == r) = none := by
    rw [List.findIdx?_eq_none_iff]
    intro x hx
    obtain ⟨j, hj, rfl⟩ := List.getElem_of_mem hx
    have := hno j hj
    rw [Alpha.at_eq hj] at this
    simpa using this
  simp [findLetter, this]

/-! ### numbers, bits -/
theorem ret_bool {a b : Bool} (h : a = b) : Ending.returned (.bool a) = .returned (.bool b) := by rw [h]
theorem ret_int {k : IntKind} {a b : Int} (h : a = b) : Ending.returned (.int k a) = .returned (.int k b) := by rw [h]

/-- may a class be, of n features? -/
def mayB (n p m : Nat) : Bool := decide (p < 2 ^ n ∧ m < 2 ^ n ∧ p &&& m = 0)
/-- has a letter a class? -/
def likeB (lp lm p m : Nat) : Bool := decide (p &&& lp = p ∧ m &&& lm = m)

theorem or_lt_iff {p m n : Nat} : p ||| m < 2 ^ n ↔ p < 2 ^ n ∧ m < 2 ^ n :=
  ⟨fun h => ⟨Nat.lt_of_le_of_lt Nat.left_le_or h, Nat.lt_of_le_of_lt Nat.right_le_or h⟩, fun h => Nat.or_lt_two_pow h.1 h.2⟩
theorem lt_min_iff {p n : Nat} (hp : p < 4294967296) : p < 2 ^ min n 32 ↔ p < 2 ^ n := by
  rcases Nat.le_total n 32 with h | h
  · rw [Nat.min_eq_left h]
  · rw [Nat.min_eq_right h]
    have h1 : (2 : Nat) ^ 32 ≤ 2 ^ n := Nat.pow_le_pow_right (by omega) h
    have h2 : (2 : Nat) ^ 32 = 4294967296 := by decide
    omega
theorem cg_within_iff {p m n : Nat} (hp : p < 4294967296) (hm : m < 4294967296) : (p ||| m) / 2 ^ min n 32 = 0 ↔ p < 2 ^ n ∧ m < 2 ^ n := by
  rw [Nat.div_eq_zero_iff_lt (Nat.two_pow_pos _), or_lt_iff, lt_min_iff hp, lt_min_iff hm]
theorem and_mask_iff {v n : Nat} : v &&& (2 ^ n - 1) = v ↔ v < 2 ^ n := by
  rw [Nat.and_two_pow_sub_one_eq_mod]
  exact ⟨fun h => by rw [← h]; exact Nat.mod_lt _ (Nat.two_pow_pos _), Nat.mod_eq_of_lt⟩
theorem andNot_iff {p q : Nat} (hp : p < 4294967296) (hq : q < 4294967296) : p &&& (4294967295 - q) = 0 ↔ p &&& q = p := by
  have e : ∀ i, (4294967295 - q).testBit i = (decide (i < 32) && !q.testBit i) := fun i => by
    have := Nat.testBit_two_pow_sub_succ (x := q) (n := 32) (by simpa using hq) i
    have h2 : (2 : Nat) ^ 32 - (q + 1) = 4294967295 - q := by rw [show (2 : Nat) ^ 32 = 4294967296 from by decide]; omega
    rw [h2] at this
    exact this
  have hb : ∀ i, p.testBit i = true → i < 32 := fun i hi => by
    rcases Nat.lt_or_ge i 32 with h | h
    · exact h
    · have := Nat.testBit_lt_two_pow (Nat.lt_of_lt_of_le (show p < 2 ^ 32 by simpa using hp) (Nat.pow_le_pow_right (by omega) h))
      rw [this] at hi; cases hi
  constructor
  · intro h
    apply Nat.eq_of_testBit_eq
    intro i
    have h1 := congrArg (fun x => x.testBit i) h
    simp only [Nat.testBit_and, e, Nat.zero_testBit] at h1
    rw [Nat.testBit_and]
    cases hpi : p.testBit i <;> simp [hpi] at h1 ⊢
    exact h1 (hb i hpi)
  · intro h
    apply Nat.eq_of_testBit_eq
    intro i
    have h1 := congrArg (fun x => x.testBit i) h
    simp only [Nat.testBit_and] at h1
    simp only [Nat.testBit_and, e, Nat.zero_testBit]
    cases hpi : p.testBit i <;> simp [hpi] at h1 ⊢
    intro _; exact h1

/-- how many of the first k bits are set -/
def pop (k v : Nat) : Nat := (List.range k).countP fun i => v.testBit i
theorem pop_succ (k v : Nat) : pop (k + 1) v = pop k v + if v.testBit k then 1 else 0 := by
  unfold pop; rw [List.range_succ, List.countP_append]; simp [List.countP_cons]
theorem pop_le (k v : Nat) : pop k v ≤ k := by
  induction k with
  | zero => simp [pop]
  | succ k ih => rw [pop_succ]; split <;> omega
theorem pop_add (j k v : Nat) : pop (j + k) v = pop j v + pop k (v / 2 ^ j) := by
  induction k with
  | zero => simp [pop]
  | succ k ih => rw [← Nat.add_assoc, pop_succ, ih, pop_succ, Nat.testBit_div_two_pow, Nat.add_assoc, Nat.add_comm k j]
theorem pop_of_lt {j k v : Nat} (hjk : j ≤ k) (h : v < 2 ^ j) : pop k v = pop j v := by
  induction k with
  | zero => have : j = 0 := by omega
            subst this; rfl
  | succ k ih =>
    by_cases e : j = k + 1
    · rw [e]
    · rw [pop_succ, Nat.testBit_lt_two_pow (Nat.lt_of_lt_of_le h (Nat.pow_le_pow_right (by omega) (show j ≤ k by omega))), ih (by omega)]; simp
theorem pop_mod (k v : Nat) : pop k (v % 2 ^ k) = pop k v := by
  unfold pop
  apply List.countP_congr
  intro i hi
  rw [Nat.testBit_mod_two_pow]
  simp [List.mem_range.1 hi]
/-- for how many features two letters' signs are unlike -/
def unlikeN (xp xm yp ym : Nat) : Nat := pop 32 ((xp ^^^ yp) ||| (xm ^^^ ym))
/-- may a rune be a letter's? -/
def runeOk (r : Int) : Bool := decide ((97 ≤ r ∧ r ≤ 122) ∨ (65 ≤ r ∧ r ≤ 90) ∨ (161 ≤ r ∧ r ≤ 1114111 ∧ r ≠ 65533 ∧ ¬ (55296 ≤ r ∧ r ≤ 57343)))

/-! ### names -/
def azs : List UInt8 := [97, 98, 99, 100, 101, 102, 103, 104, 105, 106, 107, 108, 109, 110, 111, 112, 113, 114, 115, 116, 117, 118, 119, 120, 121, 122]
def isAz (c : UInt8) : Bool := decide (97 ≤ c.toNat ∧ c.toNat ≤ 122)
theorem azs_fin : ∀ i : Fin 256, azs.contains (UInt8.ofNat i.val) = isAz (UInt8.ofNat i.val) := by decide +kernel
theorem azs_contains (c : UInt8) : azs.contains c = isAz c := by
  have := azs_fin ⟨c.toNat, c.toNat_lt⟩
  simpa using this
theorem dropWhile_nil {α : Type} (p : α → Bool) : ∀ l : List α, l.dropWhile p = [] ↔ l.all p = true
  | [] => by simp
  | x :: r => by
    rw [List.dropWhile_cons, List.all_cons]
    cases hx : p x
    · simp
    · simpa using dropWhile_nil p r
theorem dropWhile_all {α : Type} (p : α → Bool) : ∀ l : List α, (l.dropWhile p).all p = true → l.all p = true
  | [] => by simp
  | x :: r => by
    rw [List.dropWhile_cons, List.all_cons]
    cases hx : p x
    · simp [hx]
    · simpa using dropWhile_all p r
theorem trimS_nil (l cs : List UInt8) : Lib.trimS l cs = [] ↔ l.all (cs.contains ·) = true := by
  unfold Lib.trimS Lib.trimLeftS Lib.trimRightS
  rw [dropWhile_nil]
  constructor
  · intro h
    rw [List.all_reverse] at h
    have := dropWhile_all _ _ h
    rwa [List.all_reverse] at this
  · intro h
    have h2 : (l.reverse.dropWhile (cs.contains ·)) = [] := (dropWhile_nil _ _).2 (by rwa [List.all_reverse])
    rw [h2]; rfl
/-- may a text be a feature's name? -/
def nameOk (s : ByteArray) : Bool := decide (1 ≤ s.size) && decide (s.size ≤ 32) && s.data.toList.all isAz
theorem toList_isEmpty (s : ByteArray) : s.toList.isEmpty = decide (s.size = 0) := by
  rw [Lib.toList_data]
  have e : s.size = s.data.toList.length := rfl
  rw [e]
  cases s.data.toList <;> simp
theorem trim_name (s r : ByteArray) (h : (⟨(Lib.trimS s.data.toList azs).toArray⟩ : ByteArray) = r) : r.toList.isEmpty = s.data.toList.all isAz := by
  subst h
  rw [Lib.toList_data]
  have e := trimS_nil s.data.toList azs
  have e2 : s.data.toList.all (azs.contains ·) = s.data.toList.all isAz := by simp only [azs_contains]
  rw [e2] at e
  cases h : s.data.toList.all isAz
  · rw [h] at e
    cases h3 : Lib.trimS s.data.toList azs with
    | nil => exact absurd (e.1 h3) (by decide)
    | cons a b => rfl
  · rw [e.2 h]; rfl
/-- the mask of n features -/
def maskN (n : Nat) : Nat := 2 ^ min n 32 - 1
theorem mask_wrap (n : Nat) : ((2 : Int) ^ min n 32 % 4294967296 - 1) % 4294967296 = (maskN n : Nat) := by
  unfold maskN
  rcases Nat.lt_or_ge n 32 with h | h
  · rw [Nat.min_eq_left (by omega)]
    have h1 : 2 ^ n < 2 ^ 32 := Nat.pow_lt_pow_right (by omega) h
    have h2 : (2 : Nat) ^ 32 = 4294967296 := by decide
    have h3 := Nat.two_pow_pos n
    have e : (2 : Int) ^ n = ((2 ^ n : Nat) : Int) := by simp
    rw [e]; omega
  · rw [Nat.min_eq_right h]; decide
theorem maskN_lt (n : Nat) : maskN n < 4294967296 := by
  unfold maskN
  have : 2 ^ min n 32 ≤ 2 ^ 32 := Nat.pow_le_pow_right (by omega) (Nat.min_le_right _ _)
  have h2 : (2 : Nat) ^ 32 = 4294967296 := by decide
  omega
theorem and_maskN {v n : Nat} (hv : v < 4294967296) : v &&& maskN n = v ↔ v < 2 ^ n := by
  unfold maskN; rw [and_mask_iff, lt_min_iff hv]

/-! ### alphabets that may be -/
def featOk (A : Alpha) (i : Nat) : Prop := nameOk (A.ft i) = true ∧ ∀ k, k < i → A.ft k ≠ A.ft i
def letOk (A : Alpha) (i : Nat) : Prop := runeOk (A.at_ i).rune = true ∧ mayB A.feats.length (A.at_ i).plus (A.at_ i).minus = true ∧ ∀ k, k < i → (A.at_ k).rune ≠ (A.at_ i).rune
instance (A : Alpha) (i : Nat) : Decidable (featOk A i) := by unfold featOk; infer_instance
instance (A : Alpha) (i : Nat) : Decidable (letOk A i) := by unfold letOk; infer_instance
def Alpha.Ok (A : Alpha) : Prop := A.feats.length ≤ 24 ∧ 1 ≤ A.lets.length ∧ A.lets.length ≤ 128 ∧ (∀ i, i < A.feats.length → featOk A i) ∧ ∀ i, i < A.lets.length → letOk A i
instance (A : Alpha) : Decidable A.Ok := by unfold Alpha.Ok; infer_instance
def checkN (A : Alpha) : Int := if A.Ok then 0 else 7
theorem checkN_ok {A : Alpha} (h : A.Ok) : checkN A = 0 := if_pos h
theorem checkN_bad {A : Alpha} (h : ¬ A.Ok) : checkN A = 7 := if_neg h
theorem not_ok_feat {A : Alpha} {i : Nat} (hi : i < A.feats.length) (h : ¬ featOk A i) : ¬ A.Ok := fun o => h (o.2.2.2.1 i hi)
theorem not_ok_let {A : Alpha} {i : Nat} (hi : i < A.lets.length) (h : ¬ letOk A i) : ¬ A.Ok := fun o => h (o.2.2.2.2 i hi)

/-! ### rows of runes -/
def rn (l : List Int) (j : Nat) : Int := l.getD j 0
theorem rn_eq {l : List Int} {j : Nat} (h : j < l.length) : rn l j = l[j] := by simp [rn, List.getD, h]
structure RunesAt (w : World) (p : Option Addr) (l : List Int) : Prop where
  reads : Reads w p l.length (fun j => .int .i32 (rn l j))
  big : l.length ≤ 35184372088832
  wf : ∀ i, i < l.length → -2147483648 ≤ rn l i ∧ rn l i ≤ 2147483647
theorem RunesAt.mono {w w' : World} {p : Option Addr} {l : List Int} (h : RunesAt w p l) (hb : Ext w w') : RunesAt w' p l := ⟨h.reads.mono hb, h.big, h.wf⟩
theorem RunesAt.cells {w : World} {p : Option Addr} {l : List Int} (h : RunesAt w p l) {i : Nat} (hi : i < l.length) :
    ∃ b off, p = some ⟨b, off, none⟩ ∧ b < w.heap.size ∧ w.cell? ⟨b, off + i, none⟩ = some (.int .i32 (rn l i)) := by
  rcases h.reads with h0 | ⟨b, off, hp, hlt, hc⟩
  · omega
  · exact ⟨b, off, hp, hlt, hc i hi⟩
theorem AlphaAt.fcells {w : World} {fp lp : Option Addr} {A : Alpha} (h : AlphaAt w fp lp A) {i : Nat} (hi : i < A.feats.length) :
    ∃ b off, fp = some ⟨b, off, none⟩ ∧ b < w.heap.size ∧ w.cell? ⟨b, off + i, none⟩ = some (.string (A.ft i)) := by
  rcases h.feats with h0 | ⟨b, off, hp, hlt, hc⟩
  · omega
  · exact ⟨b, off, hp, hlt, hc i hi⟩

/-- the error of an alphabet and of letters -/
def askedN (A : Alpha) (l : List Int) : Int := if A.Ok then (if ∀ i, i < l.length → 0 ≤ findLetter A (rn l i) then 0 else 5) else 7
theorem findLetter_range (A : Alpha) (r : Int) : -1 ≤ findLetter A r ∧ findLetter A r < A.lets.length ∨ (findLetter A r = -1) := by
  unfold findLetter
  cases h : A.lets.findIdx? (fun l => l.rune == r) with
  | none => right; rfl
  | some i =>
    left
    have := (List.findIdx?_eq_some_iff_getElem.1 h).1
    simp; omega
theorem findLetter_some {A : Alpha} {r : Int} (h : 0 ≤ findLetter A r) : ∃ i : Nat, findLetter A r = i ∧ i < A.lets.length ∧ (A.at_ i).rune = r ∧ ∀ j, j < i → (A.at_ j).rune ≠ r := by
  unfold findLetter at h ⊢
  cases hf : A.lets.findIdx? (fun l => l.rune == r) with
  | none => rw [hf] at h; simp at h
  | some i =>
    obtain ⟨h1, h2, h3⟩ := List.findIdx?_eq_some_iff_getElem.1 hf
    refine ⟨i, rfl, h1, ?_, fun j hj => ?_⟩
    · rw [Alpha.at_eq h1]; simpa using h2
    · have := h3 j hj
      rw [Alpha.at_eq (by omega)]; simpa using this
end Go.Cg
