/- Contracts of the reference: Of, Has, Far, Nearest, Near, Class. -/
import Derived.Test.YtcnhlogkhnoacaaGreatDoorFeati
import Derived.Test.YtcnhlogkhnoacaaGreatDoorSpez
import Derived.Test.YtcnhlogkhnoacaaGreatDoorRegt
import Derived.Test.YtcnhlogkhnoacaaGreatDoorFela
namespace Go.Proofs.YtcnhlogkhnoacaaGreatDoor
open Go.RowKit Go.Cg Go.Shelf Go.Maps

theorem RunesAt.one {W : World} {r : Int} {B : Nat} (hb : W.heap[B]? = some (.cells #[.int .i32 r] 21 (0, 0))) (h1 : -2147483648 ≤ r) (h2 : r ≤ 2147483647) : RunesAt W (some ⟨B, 0, none⟩) [r] := by
  refine ⟨.inr ⟨B, 0, rfl, (Array.getElem?_eq_some_iff.1 hb).1, fun j hj => ?_⟩, by show (_ : Nat) ≤ _; simp, fun i hi => ?_⟩
  · have : j = 0 := by simp at hj; omega
    subst this
    rw [Lib.cell_of_heap hb]; rfl
  · have : i = 0 := by simp at hi; omega
    subst this; exact ⟨h1, h2⟩
theorem RunesAt.two {W : World} {r s : Int} {B : Nat} (hb : W.heap[B]? = some (.cells #[.int .i32 r, .int .i32 s] 21 (0, 0))) (h1 : -2147483648 ≤ r ∧ r ≤ 2147483647) (h2 : -2147483648 ≤ s ∧ s ≤ 2147483647) : RunesAt W (some ⟨B, 0, none⟩) [r, s] := by
  refine ⟨.inr ⟨B, 0, rfl, (Array.getElem?_eq_some_iff.1 hb).1, fun j hj => ?_⟩, by show (_ : Nat) ≤ _; simp, fun i hi => ?_⟩
  · have h3 : j < 2 := by simpa using hj
    rw [Lib.cell_of_heap hb]
    match j, h3 with
    | 0, _ => rfl
    | 1, _ => rfl
  · have h3 : i < 2 := by simpa using hi
    match i, h3 with
    | 0, _ => exact h1
    | 1, _ => exact h2
theorem results_row_tmp {P : Program} {fn : Func} {p q : Tmp} {ty : TypeId} (h : fn.results = #[.cell p ty, .tmp q]) (tmps : Array Value) (w : World) (g : Nat) (t : TypeId) (cs : Array Value) (fr : Nat × Nat) (d : TypeDesc) (v : Value)
    (hp : tmps.getD p undef = .pointer (some ⟨g, 0, none⟩)) (hq : tmps.getD q undef = v) (hg : w.heap[g]? = some (.cells cs t fr))
    (hu : P.underlying ty = some d) (hd : (match d with | .struct _ | .array _ _ => true | _ => false) = true) (hi : (P.info? ty).map (·.size) = some cs.size) :
    (results fn tmps).run P w = .ok (.tuple #[.agg cs, v]) w := by
  have hp' : tmps[p]?.getD undef = .pointer (some ⟨g, 0, none⟩) := by simpa using hp
  have hq' : tmps[q]?.getD undef = v := by simpa using hq
  simp [results, h, hp', hq', asAddr, run_loadVar_row w g t ty cs fr d hg hu hd hi]
theorem ofL_zero {A : Alpha} {r : Int} (h : ofE A r ≠ 0) : ofL A r = zl := by
  rcases ofE_cases A r with ⟨h0, _⟩ | ⟨_, _, hf⟩ | ⟨_, hk⟩
  · exact absurd h0 h
  · exact ofL_none hf
  · exact ofL_bad hk r
theorem asked_one (A : Alpha) (r : Int) : askedN A [r] = ofE A r := by
  unfold askedN ofE
  split
  · by_cases h : 0 ≤ findLetter A r
    · rw [if_pos h, if_pos fun i hi => by
        have : i = 0 := by simp at hi; omega
        subst this; exact h]
    · rw [if_neg h, if_neg fun h' => h (h' 0 (by simp))]
  · rfl
theorem asked_two (A : Alpha) (x y : Int) : askedN A [x, y] = farE A x y := by
  unfold askedN farE ofE
  split
  · by_cases h : 0 ≤ findLetter A x
    · rw [if_pos h, if_pos rfl]
      by_cases h2 : 0 ≤ findLetter A y
      · rw [if_pos h2, if_pos fun i hi => by
          have h3 : i < 2 := by simpa using hi
          match i, h3 with
          | 0, _ => exact h
          | 1, _ => exact h2]
      · rw [if_neg h2, if_neg fun h' => h2 (h' 1 (by simp))]
    · rw [if_neg h, if_neg (show ¬ ((5 : Int) = 0) by decide), if_neg fun h' => h (h' 0 (by simp))]
  · rw [if_neg (by decide)]
theorem asked_nil (A : Alpha) : askedN A [] = if A.Ok then 0 else 7 := by
  unfold askedN
  split
  · rw [if_pos fun i hi => absurd hi (by simp)]
  · rfl