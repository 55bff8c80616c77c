/- Plain laws of alignments: the least cost, how many have it, the first one; no alignment costs less; a distance. -/
import Derived.Test.YtcnhlogkhnoacaaGreatDoorBase
namespace Go.Cg
open Go.RowKit
/-- the least cost of an alignment of two rows of letters -/
def al (fr : Int → Int → Nat) : List Int → List Int → Nat
  | [], [] => 0
  | _ :: xs, [] => 5 + al fr xs []
  | [], _ :: ys => 5 + al fr [] ys
  | x :: xs, y :: ys => min (fr x y + al fr xs ys) (min (5 + al fr xs (y :: ys)) (5 + al fr (x :: xs) ys))
termination_by x y => x.length + y.length
/-- how many alignments cost it, capped -/
def mn (fr : Int → Int → Nat) : List Int → List Int → Nat
  | [], [] => 1
  | _ :: xs, [] => mn fr xs []
  | [], _ :: ys => mn fr [] ys
  | x :: xs, y :: ys => min (((if fr x y + al fr xs ys = al fr (x :: xs) (y :: ys) then mn fr xs ys else 0) + (if 5 + al fr xs (y :: ys) = al fr (x :: xs) (y :: ys) then mn fr xs (y :: ys) else 0)) + (if 5 + al fr (x :: xs) ys = al fr (x :: xs) (y :: ys) then mn fr (x :: xs) ys else 0)) 1048577
termination_by x y => x.length + y.length
theorem al_nil (fr : Int → Int → Nat) : al fr [] [] = 0 := by rw [al]
theorem al_left (fr : Int → Int → Nat) (x : Int) (xs : List Int) : al fr (x :: xs) [] = 5 + al fr xs [] := by rw [al]
theorem al_right (fr : Int → Int → Nat) (y : Int) (ys : List Int) : al fr [] (y :: ys) = 5 + al fr [] ys := by rw [al]
theorem al_both (fr : Int → Int → Nat) (x y : Int) (xs ys : List Int) : al fr (x :: xs) (y :: ys) = min (fr x y + al fr xs ys) (min (5 + al fr xs (y :: ys)) (5 + al fr (x :: xs) ys)) := by rw [al]
theorem mn_nil (fr : Int → Int → Nat) : mn fr [] [] = 1 := by rw [mn]
theorem mn_left (fr : Int → Int → Nat) (x : Int) (xs : List Int) : mn fr (x :: xs) [] = mn fr xs [] := by rw [mn]
theorem mn_right (fr : Int → Int → Nat) (y : Int) (ys : List Int) : mn fr [] (y :: ys) = mn fr [] ys := by rw [mn]
theorem mn_both (fr : Int → Int → Nat) (x y : Int) (xs ys : List Int) : mn fr (x :: xs) (y :: ys) = min (((if fr x y + al fr xs ys = al fr (x :: xs) (y :: ys) then mn fr xs ys else 0) + (if 5 + al fr xs (y :: ys) = al fr (x :: xs) (y :: ys) then mn fr xs (y :: ys) else 0)) + (if 5 + al fr (x :: xs) ys = al fr (x :: xs) (y :: ys) then mn fr (x :: xs) ys else 0)) 1048577 := by rw [mn]
theorem al_le_len (fr : Int → Int → Nat) : ∀ (x y : List Int), al fr x y ≤ 5 * (x.length + y.length)
  | [], [] => by rw [al_nil]; omega
  | x :: xs, [] => by have := al_le_len fr xs []; rw [al_left]; simp only [List.length_cons, List.length_nil] at *; omega
  | [], y :: ys => by have := al_le_len fr [] ys; rw [al_right]; simp only [List.length_cons, List.length_nil] at *; omega
  | x :: xs, y :: ys => by have := al_le_len fr xs (y :: ys); rw [al_both]; simp only [List.length_cons] at *; omega
termination_by x y => x.length + y.length
theorem mn_pos (fr : Int → Int → Nat) : ∀ (x y : List Int), 1 ≤ mn fr x y ∧ mn fr x y ≤ 1048577
  | [], [] => by rw [mn_nil]; omega
  | x :: xs, [] => by rw [mn_left]; exact mn_pos fr xs []
  | [], y :: ys => by rw [mn_right]; exact mn_pos fr [] ys
  | x :: xs, y :: ys => by
    have h1 := mn_pos fr xs ys
    have h2 := mn_pos fr xs (y :: ys)
    have h3 := mn_pos fr (x :: xs) ys
    have e := al_both fr x y xs ys
    rw [mn_both]
    constructor
    · by_cases a : fr x y + al fr xs ys = al fr (x :: xs) (y :: ys)
      · rw [if_pos a]; omega
      · by_cases b : 5 + al fr xs (y :: ys) = al fr (x :: xs) (y :: ys)
        · rw [if_pos b]; omega
        · have c : 5 + al fr (x :: xs) ys = al fr (x :: xs) (y :: ys) := by omega
          rw [if_pos c]; omega
    · omega
termination_by x y => x.length + y.length
/-- an alignment: pairs, 0 for none -/
def lefts (l : List (Int × Int)) : List Int := (l.map Prod.fst).filter (· != 0)
def rights (l : List (Int × Int)) : List Int := (l.map Prod.snd).filter (· != 0)
/-- what a pair costs -/
def pc (fr : Int → Int → Nat) (p : Int × Int) : Nat := if p.1 = p.2 then 0 else if p.1 = 0 ∨ p.2 = 0 then 5 else fr p.1 p.2
def sumC (fr : Int → Int → Nat) : List (Int × Int) → Nat
  | [] => 0
  | p :: l => pc fr p + sumC fr l
theorem lefts_cons (p : Int × Int) (l : List (Int × Int)) : lefts (p :: l) = if p.1 = 0 then lefts l else p.1 :: lefts l := by
  unfold lefts
  rw [List.map_cons, List.filter_cons]
  by_cases h : p.1 = 0 <;> simp [h]
theorem rights_cons (p : Int × Int) (l : List (Int × Int)) : rights (p :: l) = if p.2 = 0 then rights l else p.2 :: rights l := by
  unfold rights
  rw [List.map_cons, List.filter_cons]
  by_cases h : p.2 = 0 <;> simp [h]
theorem al_gap_left (fr : Int → Int → Nat) (x : Int) (xs ys : List Int) : al fr (x :: xs) ys ≤ 5 + al fr xs ys := by
  match ys with
  | [] => rw [al_left]; omega
  | y :: ys => rw [al_both]; omega
theorem al_gap_right (fr : Int → Int → Nat) (y : Int) (xs ys : List Int) : al fr xs (y :: ys) ≤ 5 + al fr xs ys := by
  match xs with
  | [] => rw [al_right]; omega
  | x :: xs => rw [al_both]; omega
theorem al_pair (fr : Int → Int → Nat) (x y : Int) (xs ys : List Int) : al fr (x :: xs) (y :: ys) ≤ fr x y + al fr xs ys := by
  rw [al_both]; omega
/-- no alignment costs less -/
theorem al_least {fr : Int → Int → Nat} (h0 : ∀ x, fr x x = 0) : ∀ l : List (Int × Int), al fr (lefts l) (rights l) ≤ sumC fr l
  | [] => by show al fr [] [] ≤ 0; rw [al_nil]; exact Nat.le_refl _
  | (a, b) :: l => by
    have ih := al_least h0 l
    rw [lefts_cons, rights_cons, sumC]
    by_cases ha : a = 0
    · subst ha
      by_cases hb : b = 0
      · subst hb; simp only [if_true]; omega
      · have e : pc fr (0, b) = 5 := by unfold pc; rw [if_neg (fun h => hb h.symm), if_pos (.inl rfl)]
        have := al_gap_right fr b (lefts l) (rights l)
        simp only [if_true, if_neg hb]; omega
    · by_cases hb : b = 0
      · subst hb
        have e : pc fr (a, 0) = 5 := by unfold pc; rw [if_neg ha, if_pos (.inr rfl)]
        have := al_gap_left fr a (lefts l) (rights l)
        simp only [if_true, if_neg ha]; omega
      · have e : pc fr (a, b) = fr a b := by
          unfold pc
          by_cases hab : a = b
          · subst hab; rw [if_pos rfl, h0]
          · rw [if_neg hab, if_neg (fun h => h.elim ha hb)]
        have := al_pair fr a b (lefts l) (rights l)
        simp only [if_neg ha, if_neg hb]; omega
/-- the first alignment that costs the least -/
def fst1 (fr : Int → Int → Nat) : List Int → List Int → List (Int × Int)
  | [], [] => []
  | x :: xs, [] => (x, 0) :: fst1 fr xs []
  | [], y :: ys => (0, y) :: fst1 fr [] ys
  | x :: xs, y :: ys => if al fr (x :: xs) (y :: ys) = fr x y + al fr xs ys then (x, y) :: fst1 fr xs ys else if al fr (x :: xs) (y :: ys) = 5 + al fr xs (y :: ys) then (x, 0) :: fst1 fr xs (y :: ys) else (0, y) :: fst1 fr (x :: xs) ys
termination_by x y => x.length + y.length
theorem fst1_nil (fr : Int → Int → Nat) : fst1 fr [] [] = [] := by rw [fst1]
theorem fst1_left (fr : Int → Int → Nat) (x : Int) (xs : List Int) : fst1 fr (x :: xs) [] = (x, 0) :: fst1 fr xs [] := by rw [fst1]
theorem fst1_right (fr : Int → Int → Nat) (y : Int) (ys : List Int) : fst1 fr [] (y :: ys) = (0, y) :: fst1 fr [] ys := by rw [fst1]
theorem fst1_both (fr : Int → Int → Nat) (x y : Int) (xs ys : List Int) : fst1 fr (x :: xs) (y :: ys) = if al fr (x :: xs) (y :: ys) = fr x y + al fr xs ys then (x, y) :: fst1 fr xs ys else if al fr (x :: xs) (y :: ys) = 5 + al fr xs (y :: ys) then (x, 0) :: fst1 fr xs (y :: ys) else (0, y) :: fst1 fr (x :: xs) ys := by rw [fst1]
theorem fst1_ok {fr : Int → Int → Nat} (h0 : ∀ x, fr x x = 0) : ∀ (x y : List Int), (∀ r ∈ x, r ≠ 0) → (∀ r ∈ y, r ≠ 0) → lefts (fst1 fr x y) = x ∧ rights (fst1 fr x y) = y ∧ sumC fr (fst1 fr x y) = al fr x y ∧ (fst1 fr x y).length ≤ x.length + y.length
  | [], [], _, _ => by rw [fst1_nil, al_nil]; exact ⟨rfl, rfl, rfl, Nat.le_refl _⟩
  | x :: xs, [], hx, hy => by
    obtain ⟨a, b, c, d⟩ := fst1_ok h0 xs [] (fun r hr => hx r (List.mem_cons_of_mem _ hr)) hy
    have hx0 := hx x (List.mem_cons_self ..)
    rw [fst1_left, al_left, lefts_cons, rights_cons, sumC, if_neg hx0, if_pos rfl, a, b, c]
    refine ⟨rfl, rfl, ?_, ?_⟩
    · have e : pc fr (x, 0) = 5 := by unfold pc; rw [if_neg hx0, if_pos (.inr rfl)]
      rw [e]
    · simp only [List.length_cons, List.length_nil] at *; omega
  | [], y :: ys, hx, hy => by
    obtain ⟨a, b, c, d⟩ := fst1_ok h0 [] ys hx (fun r hr => hy r (List.mem_cons_of_mem _ hr))
    have hy0 := hy y (List.mem_cons_self ..)
    rw [fst1_right, al_right, lefts_cons, rights_cons, sumC, if_neg hy0, if_pos rfl, a, b, c]
    refine ⟨rfl, rfl, ?_, ?_⟩
    · have e : pc fr (0, y) = 5 := by unfold pc; rw [if_neg (fun h => hy0 h.symm), if_pos (.inl rfl)]
      rw [e]
    · simp only [List.length_cons, List.length_nil] at *; omega
  | x :: xs, y :: ys, hx, hy => by
    have hx0 := hx x (List.mem_cons_self ..)
    have hy0 := hy y (List.mem_cons_self ..)
    have hxs : ∀ r ∈ xs, r ≠ 0 := fun r hr => hx r (List.mem_cons_of_mem _ hr)
    have hys : ∀ r ∈ ys, r ≠ 0 := fun r hr => hy r (List.mem_cons_of_mem _ hr)
    have e := al_both fr x y xs ys
    rw [fst1_both]
    by_cases h1 : al fr (x :: xs) (y :: ys) = fr x y + al fr xs ys
    · obtain ⟨a, b, c, d⟩ := fst1_ok h0 xs ys hxs hys
      rw [if_pos h1, lefts_cons, rights_cons, sumC, if_neg hx0, if_neg hy0, a, b, c]
      refine ⟨rfl, rfl, ?_, ?_⟩
      · have e : pc fr (x, y) = fr x y := by
          unfold pc
          by_cases hab : x = y
          · subst hab; rw [if_pos rfl, h0]
          · rw [if_neg hab, if_neg (fun h => h.elim hx0 hy0)]
        rw [e, h1]
      · simp only [List.length_cons] at *; omega
    · rw [if_neg h1]
      by_cases h2 : al fr (x :: xs) (y :: ys) = 5 + al fr xs (y :: ys)
      · obtain ⟨a, b, c, d⟩ := fst1_ok h0 xs (y :: ys) hxs hy
        rw [if_pos h2, lefts_cons, rights_cons, sumC, if_neg hx0, if_pos rfl, a, b, c]
        refine ⟨rfl, rfl, ?_, ?_⟩
        · have e : pc fr (x, 0) = 5 := by unfold pc; rw [if_neg hx0, if_pos (.inr rfl)]
          rw [e, h2]
        · simp only [List.length_cons] at *; omega
      · obtain ⟨a, b, c, d⟩ := fst1_ok h0 (x :: xs) ys hx hys
        rw [if_neg h2, lefts_cons, rights_cons, sumC, if_pos rfl, if_neg hy0, a, b, c]
        refine ⟨rfl, rfl, ?_, ?_⟩
        · have e2 : pc fr (0, y) = 5 := by unfold pc; rw [if_neg (fun h => hy0 h.symm), if_pos (.inl rfl)]
          rw [e2]; omega
        · simp only [List.length_cons] at *; omega
termination_by x y => x.length + y.length
/-! ### a distance -/
theorem al_self {fr : Int → Int → Nat} (h0 : ∀ x, fr x x = 0) : ∀ x : List Int, al fr x x = 0
  | [] => al_nil fr
  | x :: xs => by
    have := al_pair fr x x xs xs
    have h := h0 x
    have ih := al_self h0 xs
    omega
theorem al_zero {fr : Int → Int → Nat} (h1 : ∀ x y, fr x y = 0 → x = y) : ∀ x y : List Int, al fr x y = 0 → x = y
  | [], [], _ => rfl
  | x :: xs, [], h => by rw [al_left] at h; omega
  | [], y :: ys, h => by rw [al_right] at h; omega
  | x :: xs, y :: ys, h => by
    rw [al_both] at h
    have a : fr x y = 0 := by omega
    have b : al fr xs ys = 0 := by omega
    rw [h1 x y a, al_zero h1 xs ys b]
theorem al_comm {fr : Int → Int → Nat} (hc : ∀ x y, fr x y = fr y x) : ∀ x y : List Int, al fr x y = al fr y x
  | [], [] => rfl
  | x :: xs, [] => by rw [al_left, al_right, al_comm hc xs []]
  | [], y :: ys => by rw [al_left, al_right, al_comm hc [] ys]
  | x :: xs, y :: ys => by
    rw [al_both, al_both, al_comm hc xs ys, al_comm hc xs (y :: ys), al_comm hc (x :: xs) ys, hc x y]
    omega
termination_by x y => x.length + y.length
theorem al_tri {fr : Int → Int → Nat} (ht : ∀ x y z, fr x z ≤ fr x y + fr y z) : ∀ x y z : List Int, al fr x z ≤ al fr x y + al fr y z
  | [], [], z => by rw [al_nil]; omega
  | x, [], [] => by rw [al_nil]; omega
  | x :: xs, [], z :: zs => by
    have h1 := al_tri ht xs [] (z :: zs)
    rw [al_left]
    have := al_gap_left fr x xs (z :: zs)
    omega
  | [], y :: ys, [] => by rw [al_nil]; omega
  | [], y :: ys, z :: zs => by
    have ih1 := al_tri ht [] ys zs
    have ih2 := al_tri ht [] ys (z :: zs)
    have ih3 := al_tri ht [] (y :: ys) zs
    have e1 := al_right fr y ys
    have e2 := al_both fr y z ys zs
    have e3 := al_right fr z zs
    omega
  | x :: xs, y :: ys, [] => by
    have ih1 := al_tri ht xs ys []
    have ih2 := al_tri ht xs (y :: ys) []
    have ih3 := al_tri ht (x :: xs) ys []
    have e1 := al_left fr x xs
    have e2 := al_both fr x y xs ys
    have e3 := al_left fr y ys
    omega
  | x :: xs, y :: ys, z :: zs => by
    have p1 := al_tri ht xs ys zs
    have p2 := al_tri ht xs (y :: ys) (z :: zs)
    have p3 := al_tri ht (x :: xs) ys (z :: zs)
    have p4 := al_tri ht (x :: xs) (y :: ys) zs
    have p5 := al_tri ht xs ys (z :: zs)
    have p6 := al_tri ht (x :: xs) ys zs
    have e1 := al_both fr x y xs ys
    have e2 := al_both fr y z ys zs
    have e3 := al_both fr x z xs zs
    have t := ht x y z
    have g1 := al_gap_left fr x xs (z :: zs)
    have g2 := al_gap_right fr z (x :: xs) zs
    have g3 := al_pair fr x z xs zs
    omega
termination_by x y z => x.length + y.length + z.length

/-! ### by places -/
theorem drop_cons {l : List Int} {i : Nat} (h : i < l.length) : l.drop i = rn l i :: l.drop (i + 1) := by
  rw [List.drop_eq_getElem_cons h, rn_eq h]
/-- what is left from two places on costs this -/
def tc (fr : Int → Int → Nat) (x y : List Int) (i k : Nat) : Nat := al fr (x.drop i) (y.drop k)
def tm (fr : Int → Int → Nat) (x y : List Int) (i k : Nat) : Nat := mn fr (x.drop i) (y.drop k)
def tf (fr : Int → Int → Nat) (x y : List Int) (i k : Nat) : List (Int × Int) := fst1 fr (x.drop i) (y.drop k)
theorem tc_end (fr : Int → Int → Nat) (x y : List Int) : tc fr x y x.length y.length = 0 := by unfold tc; rw [List.drop_length, List.drop_length, al_nil]
theorem tm_end (fr : Int → Int → Nat) (x y : List Int) : tm fr x y x.length y.length = 1 := by unfold tm; rw [List.drop_length, List.drop_length, mn_nil]
theorem tf_end (fr : Int → Int → Nat) (x y : List Int) : tf fr x y x.length y.length = [] := by unfold tf; rw [List.drop_length, List.drop_length, fst1_nil]
theorem tc_left (fr : Int → Int → Nat) {x : List Int} (y : List Int) {i : Nat} (h : i < x.length) : tc fr x y i y.length = 5 + tc fr x y (i + 1) y.length := by unfold tc; rw [drop_cons h, List.drop_length, al_left]
theorem tm_left (fr : Int → Int → Nat) {x : List Int} (y : List Int) {i : Nat} (h : i < x.length) : tm fr x y i y.length = tm fr x y (i + 1) y.length := by unfold tm; rw [drop_cons h, List.drop_length, mn_left]
theorem tf_left (fr : Int → Int → Nat) {x : List Int} (y : List Int) {i : Nat} (h : i < x.length) : tf fr x y i y.length = (rn x i, 0) :: tf fr x y (i + 1) y.length := by unfold tf; rw [drop_cons h, List.drop_length, fst1_left]
theorem tc_right (fr : Int → Int → Nat) (x : List Int) {y : List Int} {k : Nat} (h : k < y.length) : tc fr x y x.length k = 5 + tc fr x y x.length (k + 1) := by unfold tc; rw [drop_cons h, List.drop_length, al_right]
theorem tm_right (fr : Int → Int → Nat) (x : List Int) {y : List Int} {k : Nat} (h : k < y.length) : tm fr x y x.length k = tm fr x y x.length (k + 1) := by unfold tm; rw [drop_cons h, List.drop_length, mn_right]
theorem tf_right (fr : Int → Int → Nat) (x : List Int) {y : List Int} {k : Nat} (h : k < y.length) : tf fr x y x.length k = (0, rn y k) :: tf fr x y x.length (k + 1) := by unfold tf; rw [drop_cons h, List.drop_length, fst1_right]
theorem tc_both (fr : Int → Int → Nat) {x y : List Int} {i k : Nat} (hi : i < x.length) (hk : k < y.length) : tc fr x y i k = min (fr (rn x i) (rn y k) + tc fr x y (i + 1) (k + 1)) (min (5 + tc fr x y (i + 1) k) (5 + tc fr x y i (k + 1))) := by
  have e1 := drop_cons hi
  have e2 := drop_cons hk
  unfold tc
  rw [e1, e2, al_both, ← e1, ← e2]
theorem tm_both (fr : Int → Int → Nat) {x y : List Int} {i k : Nat} (hi : i < x.length) (hk : k < y.length) : tm fr x y i k = min (((if fr (rn x i) (rn y k) + tc fr x y (i + 1) (k + 1) = tc fr x y i k then tm fr x y (i + 1) (k + 1) else 0) + (if 5 + tc fr x y (i + 1) k = tc fr x y i k then tm fr x y (i + 1) k else 0)) + (if 5 + tc fr x y i (k + 1) = tc fr x y i k then tm fr x y i (k + 1) else 0)) 1048577 := by
  have e1 := drop_cons hi
  have e2 := drop_cons hk
  unfold tm tc
  rw [e1, e2, mn_both, ← e1, ← e2]
theorem tf_both (fr : Int → Int → Nat) {x y : List Int} {i k : Nat} (hi : i < x.length) (hk : k < y.length) : tf fr x y i k = if tc fr x y i k = fr (rn x i) (rn y k) + tc fr x y (i + 1) (k + 1) then (rn x i, rn y k) :: tf fr x y (i + 1) (k + 1) else if tc fr x y i k = 5 + tc fr x y (i + 1) k then (rn x i, 0) :: tf fr x y (i + 1) k else (0, rn y k) :: tf fr x y i (k + 1) := by
  have e1 := drop_cons hi
  have e2 := drop_cons hk
  unfold tf tc
  rw [e1, e2, fst1_both, ← e1, ← e2]
theorem tc_le (fr : Int → Int → Nat) {x y : List Int} (hx : x.length ≤ 64) (hy : y.length ≤ 64) (i k : Nat) : tc fr x y i k ≤ 640 := by
  have := al_le_len fr (x.drop i) (y.drop k)
  rw [List.length_drop, List.length_drop] at this
  unfold tc; omega
theorem tm_le (fr : Int → Int → Nat) (x y : List Int) (i k : Nat) : 1 ≤ tm fr x y i k ∧ tm fr x y i k ≤ 1048577 := mn_pos fr _ _
end Go.Cg
