/- Plain: alignments of letters: the same either way round, a triangle, 0 just of a word and itself; words. -/
import Derived.Test.YtcnhlogkhnoacaaGreatDoorAlga
import Derived.Test.YtcnhlogkhnoacaaGreatDoorLetz
namespace Go.Cg
open Go.RowKit
theorem al_tri_on {fr : Int → Int → Nat} {P : Int → Prop} (ht : ∀ x y z, P x → P y → P z → fr x z ≤ fr x y + fr y z) : ∀ x y z : List Int, (∀ r ∈ x, P r) → (∀ r ∈ y, P r) → (∀ r ∈ z, P r) → al fr x z ≤ al fr x y + al fr y z
  | [], [], z, _, _, _ => by rw [al_nil]; omega
  | x, [], [], _, _, _ => by rw [al_nil]; omega
  | x :: xs, [], z :: zs, hx, hy, hz => by
    have h1 := al_tri_on ht xs [] (z :: zs) (fun r hr => hx r (List.mem_cons_of_mem _ hr)) hy hz
    rw [al_left]
    have := al_gap_left fr x xs (z :: zs)
    omega
  | [], y :: ys, [], _, _, _ => by rw [al_nil]; omega
  | [], y :: ys, z :: zs, hx, hy, hz => by
    have hys : ∀ r ∈ ys, P r := fun r hr => hy r (List.mem_cons_of_mem _ hr)
    have hzs : ∀ r ∈ zs, P r := fun r hr => hz r (List.mem_cons_of_mem _ hr)
    have ih1 := al_tri_on ht [] ys zs hx hys hzs
    have ih2 := al_tri_on ht [] ys (z :: zs) hx hys hz
    have ih3 := al_tri_on ht [] (y :: ys) zs hx hy hzs
    have e1 := al_right fr y ys
    have e2 := al_both fr y z ys zs
    have e3 := al_right fr z zs
    omega
  | x :: xs, y :: ys, [], hx, hy, hz => by
    have hxs : ∀ r ∈ xs, P r := fun r hr => hx r (List.mem_cons_of_mem _ hr)
    have hys : ∀ r ∈ ys, P r := fun r hr => hy r (List.mem_cons_of_mem _ hr)
    have ih1 := al_tri_on ht xs ys [] hxs hys hz
    have ih2 := al_tri_on ht xs (y :: ys) [] hxs hy hz
    have ih3 := al_tri_on ht (x :: xs) ys [] hx hys hz
    have e1 := al_left fr x xs
    have e2 := al_both fr x y xs ys
    have e3 := al_left fr y ys
    omega
  | x :: xs, y :: ys, z :: zs, hx, hy, hz => by
    have hxs : ∀ r ∈ xs, P r := fun r hr => hx r (List.mem_cons_of_mem _ hr)
    have hys : ∀ r ∈ ys, P r := fun r hr => hy r (List.mem_cons_of_mem _ hr)
    have hzs : ∀ r ∈ zs, P r := fun r hr => hz r (List.mem_cons_of_mem _ hr)
    have p1 := al_tri_on ht xs ys zs hxs hys hzs
    have p2 := al_tri_on ht xs (y :: ys) (z :: zs) hxs hy hz
    have p3 := al_tri_on ht (x :: xs) ys (z :: zs) hx hys hz
    have p4 := al_tri_on ht (x :: xs) (y :: ys) zs hx hy hzs
    have p5 := al_tri_on ht xs ys (z :: zs) hxs hys hz
    have p6 := al_tri_on ht (x :: xs) ys zs hx hys hzs
    have e1 := al_both fr x y xs ys
    have e2 := al_both fr y z ys zs
    have e3 := al_both fr x z xs zs
    have t := ht x y z (hx x (List.mem_cons_self ..)) (hy y (List.mem_cons_self ..)) (hz z (List.mem_cons_self ..))
    have g1 := al_gap_left fr x xs (z :: zs)
    have g2 := al_gap_right fr z (x :: xs) zs
    have g3 := al_pair fr x z xs zs
    omega
termination_by x y z => x.length + y.length + z.length

theorem letter_rune {A : Alpha} (hA : A.Ok) {r : Int} (h : 0 ≤ findLetter A r) : runeOk r = true := by
  obtain ⟨i, _, hi, he, _⟩ := findLetter_some h
  have := (hA.2.2.2.2 i hi).1
  rw [he] at this
  exact this
theorem runeOk_ne {r : Int} (h : runeOk r = true) : r ≠ 0 := by
  rintro rfl
  revert h
  decide
theorem letter_ne {A : Alpha} (hA : A.Ok) {r : Int} (h : 0 ≤ findLetter A r) : r ≠ 0 := runeOk_ne (letter_rune hA h)
theorem InA_ne {A : Alpha} (hA : A.Ok) {l : List Int} (h : InA A l) : ∀ r ∈ l, r ≠ 0 := fun r hr => letter_ne hA (h r hr)
theorem farC_comm (A : Alpha) (x y : Int) : farC A x y = farC A y x := by
  by_cases h : x = y
  · rw [h]
  · by_cases h0 : x = 0 ∨ y = 0
    · rw [farC_gap h h0, farC_gap (fun k => h k.symm) h0.symm]
    · have h1 : x ≠ 0 := fun k => h0 (.inl k)
      have h2 : y ≠ 0 := fun k => h0 (.inr k)
      rw [farC_two h h1 h2, farC_two (fun k => h k.symm) h2 h1, farN_comm]
theorem farC_zero {A : Alpha} {x y : Int} (he : farC A x y = 0) : x = y := by
  by_cases h : x = y
  · exact h
  · by_cases h0 : x = 0 ∨ y = 0
    · rw [farC_gap h h0] at he; omega
    · have h1 : x ≠ 0 := fun k => h0 (.inl k)
      have h2 : y ≠ 0 := fun k => h0 (.inr k)
      rw [farC_two h h1 h2] at he; omega
theorem farN_tri' {A : Alpha} {x y z : Int} (h1 : farE A x y = 0) (h2 : farE A x z = 0) (h3 : farE A z y = 0) : farN A x y ≤ farN A x z + farN A z y := by
  unfold farN; rw [if_pos h1, if_pos h2, if_pos h3]
  exact unlikeN_tri _ _ _ _ _ _
theorem farE_lets {A : Alpha} (hA : A.Ok) {x y : Int} (hx : 0 ≤ findLetter A x) (hy : 0 ≤ findLetter A y) : farE A x y = 0 := by
  unfold farE; rw [if_pos (ofE_ok hA hx), ofE_ok hA hy]
theorem farC_tri {A : Alpha} (hA : A.Ok) (x y z : Int) (hx : 0 ≤ findLetter A x) (hy : 0 ≤ findLetter A y) (hz : 0 ≤ findLetter A z) : farC A x z ≤ farC A x y + farC A y z := by
  have nx := letter_ne hA hx
  have ny := letter_ne hA hy
  have nz := letter_ne hA hz
  by_cases h1 : x = z
  · rw [h1, farC_same]; omega
  · by_cases h2 : x = y
    · rw [h2]; omega
    · by_cases h3 : y = z
      · rw [h3]; omega
      · rw [farC_two h1 nx nz, farC_two h2 nx ny, farC_two h3 ny nz]
        have := farN_tri' (farE_lets hA hx hz) (farE_lets hA hx hy) (farE_lets hA hy hz)
        omega
/-- the letters of a word -/
def ltr (A : Alpha) (s : ByteArray) : List Int := (spell A s).1
def ltrE (A : Alpha) (s : ByteArray) : Int := (spell A s).2
/-- the error of two words; their least cost, the first alignment, how many -/
def twoE (A : Alpha) (x y : ByteArray) : Int := if ltrE A x ≠ 0 then ltrE A x else ltrE A y
def twoC (A : Alpha) (x y : ByteArray) : Nat := if twoE A x y = 0 then al (farC A) (ltr A x) (ltr A y) else 0
def twoP (A : Alpha) (x y : ByteArray) : List (Int × Int) := if twoE A x y = 0 then fst1 (farC A) (ltr A x) (ltr A y) else []
theorem twoE_zero {A : Alpha} {x y : ByteArray} (h : twoE A x y = 0) : ltrE A x = 0 ∧ ltrE A y = 0 := by
  unfold twoE at h
  split at h
  · contradiction
  · rename_i k; exact ⟨by omega, h⟩
theorem twoE_ok {A : Alpha} {x y : ByteArray} (h1 : ltrE A x = 0) (h2 : ltrE A y = 0) : twoE A x y = 0 := by
  unfold twoE; rw [if_neg (by omega)]; exact h2
theorem twoE_swap {A : Alpha} {x y : ByteArray} : twoE A x y = 0 ↔ twoE A y x = 0 :=
  ⟨fun h => twoE_ok (twoE_zero h).2 (twoE_zero h).1, fun h => twoE_ok (twoE_zero h).2 (twoE_zero h).1⟩
theorem twoC_swap (A : Alpha) (x y : ByteArray) : twoC A x y = twoC A y x := by
  unfold twoC
  by_cases h : twoE A x y = 0
  · rw [if_pos h, if_pos (twoE_swap.1 h), al_comm (farC_comm A)]
  · rw [if_neg h, if_neg (fun k => h (twoE_swap.1 k))]
theorem ltr_ok {A : Alpha} {s : ByteArray} (h : ltrE A s = 0) : A.Ok ∧ runesBytes (ltr A s) = s ∧ InA A (ltr A s) ∧ (ltr A s).length ≤ 64 := spell_ok h
theorem twoC_zero {A : Alpha} {x y : ByteArray} (h : twoE A x y = 0) : twoC A x y = 0 ↔ x = y := by
  obtain ⟨h1, h2⟩ := twoE_zero h
  obtain ⟨_, rx, _, _⟩ := ltr_ok h1
  obtain ⟨_, ry, _, _⟩ := ltr_ok h2
  unfold twoC
  rw [if_pos h]
  constructor
  · intro k
    have := al_zero (fun _ _ => farC_zero) _ _ k
    rw [← rx, ← ry, this]
  · rintro rfl
    exact al_self (farC_same A) _
theorem twoC_tri {A : Alpha} {x y z : ByteArray} (h1 : twoE A x y = 0) (h2 : twoE A y z = 0) : twoE A x z = 0 ∧ twoC A x z ≤ twoC A x y + twoC A y z := by
  obtain ⟨a, b⟩ := twoE_zero h1
  obtain ⟨_, c⟩ := twoE_zero h2
  have h3 := twoE_ok a c
  refine ⟨h3, ?_⟩
  obtain ⟨hA, _, ia, _⟩ := ltr_ok a
  obtain ⟨_, _, ib, _⟩ := ltr_ok b
  obtain ⟨_, _, ic, _⟩ := ltr_ok c
  unfold twoC
  rw [if_pos h1, if_pos h2, if_pos h3]
  exact al_tri_on (fun x y z => farC_tri hA x y z) _ _ _ ia ib ic
end Go.Cg
namespace Go.Proofs.YtcnhlogkhnoacaaGreatDoor
open Go.RowKit Go.Cg Go.Shelf Go.Maps
theorem twoC_le {A : Alpha} {x y : ByteArray} : twoC A x y ≤ 640 := by
  unfold twoC
  split
  · have h1 := spell_len A x
    have h2 := spell_len A y
    have := al_le_len (farC A) (ltr A x) (ltr A y)
    unfold ltr at *
    omega
  · omega
end Go.Proofs.YtcnhlogkhnoacaaGreatDoor
