/- Contracts: align.far, letter, Cost; cognateref21.Of, pair, Cost. -/
import Derived.Test.YtcnjgfadihimiaaDoorAlz
import Derived.Test.YtcnjgfadihimiaaDoorFelc
import Derived.Test.YtcnjgfadihimiaaDoorFeath
import Derived.Test.YtcnjgfadihimiaaDoorFeate
import Derived.Test.YtcnjgfadihimiaaDoorWorda
namespace Go.Cg
open Go.RowKit
/-- how far two letters are, and that they differ -/
def frA (A : Alpha) (x y : Int) : Nat := if x = y then 0 else 2 + farN A x y
theorem frA_self (A : Alpha) (x : Int) : frA A x x = 0 := if_pos rfl
def farC (A : Alpha) (x y : Int) : Nat := pc (frA A) (x, y)
theorem farC_same (A : Alpha) (x : Int) : farC A x x = 0 := if_pos rfl
theorem farC_gap {A : Alpha} {x y : Int} (h : x ≠ y) (h0 : x = 0 ∨ y = 0) : farC A x y = 5 := by unfold farC pc; rw [if_neg h, if_pos h0]
theorem farC_two {A : Alpha} {x y : Int} (h : x ≠ y) (h1 : x ≠ 0) (h2 : y ≠ 0) : farC A x y = 2 + farN A x y := by
  unfold farC pc; rw [if_neg h, if_neg (fun k => k.elim h1 h2)]; exact if_neg h
theorem farN_32 (A : Alpha) (x y : Int) : farN A x y ≤ 32 := by
  unfold farN; split
  · exact pop_le _ _
  · omega
theorem farC_le (A : Alpha) (x y : Int) : farC A x y ≤ 34 := by
  have hl := farN_32 A x y
  by_cases h : x = y
  · subst h; rw [farC_same]; omega
  · by_cases h0 : x = 0 ∨ y = 0
    · rw [farC_gap h h0]; omega
    · rw [farC_two h (fun k => h0 (.inl k)) (fun k => h0 (.inr k))]; omega
/-- the error of a rune that is a letter, or 0 -/
def lettE (A : Alpha) (r : Int) : Int := if r = 0 then 0 else ofE A r
def pairE (A : Alpha) (x y : Int) : Int := if x ≠ 0 ∧ ¬ 0 ≤ findLetter A x then 5 else if y ≠ 0 ∧ ¬ 0 ≤ findLetter A y then 5 else if x = 0 ∧ y = 0 then 2 else 0
theorem lettE_ok {A : Alpha} {x : Int} (hok : A.Ok) : lettE A x = if x ≠ 0 ∧ ¬ 0 ≤ findLetter A x then 5 else 0 := by
  unfold lettE
  by_cases h : x = 0
  · rw [if_pos h, if_neg (fun k => k.1 h)]
  · rw [if_neg h]
    by_cases hf : 0 ≤ findLetter A x
    · rw [ofE_ok hok hf, if_neg (fun k => k.2 hf)]
    · rw [ofE_none hok hf, if_pos ⟨h, hf⟩]
theorem pairE_ok {A : Alpha} {x y : Int} (hok : A.Ok) : pairE A x y = if lettE A x ≠ 0 then lettE A x else if lettE A y ≠ 0 then lettE A y else if x = 0 ∧ y = 0 then 2 else 0 := by
  have e1 := lettE_ok (x := x) hok
  have e2 := lettE_ok (x := y) hok
  unfold pairE
  by_cases h1 : x ≠ 0 ∧ ¬ 0 ≤ findLetter A x
  · rw [if_pos h1] at e1
    rw [if_pos h1, e1, if_pos (by decide)]
  · rw [if_neg h1] at e1
    rw [if_neg h1, e1, if_neg (by decide : ¬ ((0 : Int) ≠ 0))]
    by_cases h2 : y ≠ 0 ∧ ¬ 0 ≤ findLetter A y
    · rw [if_pos h2] at e2
      rw [if_pos h2, e2, if_pos (by decide)]
    · rw [if_neg h2] at e2
      rw [if_neg h2, e2, if_neg (by decide : ¬ ((0 : Int) ≠ 0))]
def costE (A : Alpha) (x y : Int) : Int := if A.Ok then pairE A x y else 7
def costN (A : Alpha) (x y : Int) : Nat := if costE A x y = 0 then farC A x y else 0
end Go.Cg
namespace Go.Proofs.YtcnjgfadihimiaaDoor
open Go.RowKit Go.Cg Go.Shelf Go.Maps

end Go.Proofs.YtcnjgfadihimiaaDoor
