/- What feature's calls answer, as plain functions. -/
import Derived.Test.YtcnhlogkhnoacaaGreatDoorBasb
namespace Go.Cg
open Go.RowKit

def zl : Letter := ⟨0, 0, 0⟩
def ofE (A : Alpha) (r : Int) : Int := if A.Ok then (if 0 ≤ findLetter A r then 0 else 5) else 7
def ofL (A : Alpha) (r : Int) : Letter := if A.Ok ∧ 0 ≤ findLetter A r then A.at_ (findLetter A r).toNat else zl
theorem ofE_bad {A : Alpha} (h : ¬ A.Ok) (r : Int) : ofE A r = 7 := if_neg h
theorem ofE_none {A : Alpha} (h : A.Ok) {r : Int} (hf : ¬ 0 ≤ findLetter A r) : ofE A r = 5 := by unfold ofE; rw [if_pos h, if_neg hf]
theorem ofE_ok {A : Alpha} (h : A.Ok) {r : Int} (hf : 0 ≤ findLetter A r) : ofE A r = 0 := by unfold ofE; rw [if_pos h, if_pos hf]
theorem ofL_bad {A : Alpha} (h : ¬ A.Ok) (r : Int) : ofL A r = zl := if_neg fun h' => h h'.1
theorem ofL_none {A : Alpha} {r : Int} (hf : ¬ 0 ≤ findLetter A r) : ofL A r = zl := if_neg fun h' => hf h'.2
theorem ofL_ok {A : Alpha} (h : A.Ok) {r : Int} {i : Nat} (hf : findLetter A r = i) : ofL A r = A.at_ i := by
  unfold ofL; rw [if_pos ⟨h, by omega⟩, hf]; rfl
theorem ofE_cases (A : Alpha) (r : Int) : (ofE A r = 0 ∧ A.Ok ∧ 0 ≤ findLetter A r) ∨ (ofE A r = 5 ∧ A.Ok ∧ ¬ 0 ≤ findLetter A r) ∨ (ofE A r = 7 ∧ ¬ A.Ok) := by
  by_cases h : A.Ok
  · by_cases hf : 0 ≤ findLetter A r
    · exact .inl ⟨ofE_ok h hf, h, hf⟩
    · exact .inr (.inl ⟨ofE_none h hf, h, hf⟩)
  · exact .inr (.inr ⟨ofE_bad h r, h⟩)
theorem at_wf {A : Alpha} (hw : ∀ i, i < A.lets.length → (A.at_ i).wf) (i : Nat) : (A.at_ i).wf := by
  by_cases h : i < A.lets.length
  · exact hw i h
  · have : A.at_ i = default := by simp [Alpha.at_, List.getD, List.getElem?_eq_none (Nat.le_of_not_lt h)]
    rw [this]; exact ⟨by decide, by decide, by decide, by decide⟩
theorem ofL_wf {A : Alpha} (hw : ∀ i, i < A.lets.length → (A.at_ i).wf) (r : Int) : (ofL A r).wf := by
  unfold ofL
  split
  · exact at_wf hw _
  · exact ⟨by decide, by decide, by decide, by decide⟩

def hasE (A : Alpha) (r : Int) (p m : Nat) : Int := if ofE A r = 0 then (if mayB A.feats.length p m = true then 0 else 20) else ofE A r
def hasB (A : Alpha) (r : Int) (p m : Nat) : Bool := decide (hasE A r p m = 0) && likeB (ofL A r).plus (ofL A r).minus p m

def classE (A : Alpha) (p m : Nat) : Int := if A.Ok then (if mayB A.feats.length p m = true then 0 else 20) else 7
/-- the runes of the class among the first k letters -/
def classTo (A : Alpha) (p m : Nat) : Nat → List Int
  | 0 => []
  | k + 1 => if likeB (A.at_ k).plus (A.at_ k).minus p m = true then classTo A p m k ++ [(A.at_ k).rune] else classTo A p m k
def classL (A : Alpha) (p m : Nat) : List Int := if classE A p m = 0 then classTo A p m A.lets.length else []
theorem classTo_len (A : Alpha) (p m : Nat) : ∀ k, (classTo A p m k).length ≤ k
  | 0 => Nat.le_refl _
  | k + 1 => by
    have := classTo_len A p m k
    unfold classTo; split
    · rw [List.length_append, List.length_singleton]; omega
    · omega
theorem classTo_mem (A : Alpha) (p m : Nat) : ∀ k, ∀ r ∈ classTo A p m k, ∃ i, i < k ∧ (A.at_ i).rune = r
  | 0 => by intro r hr; cases hr
  | k + 1 => by
    intro r hr
    unfold classTo at hr; split at hr
    · rw [List.mem_append] at hr
      rcases hr with h | h
      · obtain ⟨i, hi, e⟩ := classTo_mem A p m k r h; exact ⟨i, by omega, e⟩
      · rw [List.mem_singleton] at h; exact ⟨k, by omega, h.symm⟩
    · obtain ⟨i, hi, e⟩ := classTo_mem A p m k r hr; exact ⟨i, by omega, e⟩

def farE (A : Alpha) (x y : Int) : Int := if ofE A x = 0 then ofE A y else ofE A x
def farN (A : Alpha) (x y : Int) : Nat := if farE A x y = 0 then unlikeN (ofL A x).plus (ofL A x).minus (ofL A y).plus (ofL A y).minus else 0

/-- a letter's signs turned by a class -/
def wantP (l : Letter) (p m : Nat) : Nat := (l.plus &&& (4294967295 - m)) ||| p
def wantM (l : Letter) (p m : Nat) : Nat := (l.minus &&& (4294967295 - p)) ||| m
/-- the first of the least -/
def bestIdx (f : Nat → Nat) : Nat → Nat
  | 0 => 0
  | k + 1 => if f (k + 1) < f (bestIdx f k) then k + 1 else bestIdx f k
def nearIdx (A : Alpha) (wp wm : Nat) : Nat := bestIdx (fun i => unlikeN (A.at_ i).plus (A.at_ i).minus wp wm) (A.lets.length - 1)
def nearR (A : Alpha) (r : Int) (p m : Nat) : Int := if hasE A r p m = 0 then (A.at_ (nearIdx A (wantP (ofL A r) p m) (wantM (ofL A r) p m))).rune else 0
theorem bestIdx_le (f : Nat → Nat) : ∀ k, bestIdx f k ≤ k
  | 0 => Nat.le_refl _
  | k + 1 => by
    have := bestIdx_le f k
    unfold bestIdx; split <;> omega

end Go.Cg
