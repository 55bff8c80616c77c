/- Contracts: word.Peaks, radical.parted: a word's letters and which of them have a class. -/
import Derived.Test.YtkmfhcjdaglikaaGreatDoorLetz
import Derived.Test.YtkmfhcjdaglikaaGreatDoorRadz
namespace Go.Proofs.YtkmfhcjdaglikaaGreatDoor
open Go.RowKit Go.Cg Go.Shelf Go.Maps

theorem infoI : (Tryz.prog.info? 3).map (fun i => (i.zero, i.size, i.bytes)) = some (some (.int .i64 0), 1, 8) := by kernel_rfl
def radE (A : Alpha) (s : ByteArray) (p : Nat) : Int := if (spell A s).2 ≠ 0 then (spell A s).2 else classE A p 0
theorem radE_eq (A : Alpha) (s : ByteArray) (p : Nat) : radE A s p = if (spell A s).2 ≠ 0 then (spell A s).2 else classE A p 0 := rfl
def peaksL (A : Alpha) (s : ByteArray) (p : Nat) : List Nat := if radE A s p = 0 then peaksTo (spell A s).1 (hasL A p 0) (spell A s).1.length else []
theorem peaksL_eq (A : Alpha) (s : ByteArray) (p : Nat) : peaksL A s p = if radE A s p = 0 then peaksTo (spell A s).1 (hasL A p 0) (spell A s).1.length else [] := rfl

theorem lawI : Keyed Tryz.prog 3 := int_keyed Tryz.underlying3
theorem keyI {i : Nat} (h : i ≤ 64) : keyOf Tryz.prog 3 (.int .i64 (i : Int)) = some (.int .i64 (i : Int)) := keyOf_int_mk Tryz.underlying3 (WalkArith.wf_i64 (by omega))
/-- the set of the first k numbers -/
def setTo (a : List Nat) : Nat → Lit → Option Lit
  | 0 => fun _ => none
  | k + 1 => putFn (setTo a k) (.int .i64 ((nth a k : Nat) : Int)) (.bool true)
theorem setTo_get (a : List Nat) (i : Nat) : ∀ k, (setTo a k (.int .i64 (i : Int))).getD (.bool false) = .bool ((List.range k).any fun j => decide (nth a j = i))
  | 0 => rfl
  | k + 1 => by
    show (putFn _ _ _ _).getD _ = _
    unfold putFn
    rw [List.range_succ, List.any_append]
    by_cases h : i = nth a k
    · rw [if_pos (by rw [h]; exact WideAt.sameKey_self (lit_int_key _ _))]; simp [h]
    · rw [if_neg (fun hs => h (by
        have := WideAt.sameKey_eq hs
        simp only [Lit.int.injEq, true_and] at this
        omega)), setTo_get a i k]
      have e : decide (nth a k = i) = false := decide_eq_false (fun e => h e.symm)
      simp [e]
theorem setTo_mem {a : List Nat} {i : Nat} : (setTo a a.length (.int .i64 (i : Int))).getD (.bool false) = .bool (decide (i ∈ a)) := by
  rw [setTo_get]
  congr 1
  cases h : ((List.range a.length).any fun j => decide (nth a j = i))
  · symm
    apply decide_eq_false
    intro hm
    obtain ⟨j, hj, e⟩ := List.getElem_of_mem hm
    exact any_no h j hj (by rw [nth_eq hj]; exact e)
  · symm
    apply decide_eq_true
    obtain ⟨j, hj, e⟩ := any_yes h
    rw [← e]; exact nth_mem hj
/-- which of a word's letters have the class, as a set of places -/
theorem set_has {l : List Int} {q : Int → Bool} {k : Nat} (hk : k < l.length) : (setTo (peaksTo l q l.length) (peaksTo l q l.length).length (.int .i64 (k : Int))).getD (.bool false) = .bool (q (rn l k)) := by
  rw [setTo_mem]
  congr 1
  rw [Bool.eq_iff_iff, decide_eq_true_iff, mem_peaksTo]
  exact ⟨fun h => h.2, fun h => ⟨hk, h⟩⟩