/- A new table of align: its cells; the first place filled in. -/
import Derived.Test.YtcnhlogkhnoacaaGreatDoorAlgt
import Derived.Test.YtcnhlogkhnoacaaGreatDoorFeatb
import Derived.Test.YtcnhlogkhnoacaaGreatDoorAlz
namespace Go.Proofs.YtcnhlogkhnoacaaGreatDoor
open Go.RowKit Go.Cg

def isZ : Value → Bool
  | .int .i64 n => n == 0
  | _ => false
theorem isZ_eq {v : Value} (h : isZ v = true) : v = .int .i64 0 := by
  unfold isZ at h
  split at h
  · have := eq_of_beq h; subst this; rfl
  · cases h
set_option maxRecDepth 1000000 in
theorem tabZ : (Tryz.zeroCells94.size, (Tryz.zeroCells94.toList.drop 2).all isZ) = (8452, true) := by kernel_rfl
/-- the cells of a new table -/
def NewTab (C : Array Value) (x y : Value) : Prop := C.size = 8452 ∧ C[0]? = some x ∧ C[1]? = some y ∧ ∀ j, 2 ≤ j → j < 8452 → C[j]? = some (.int .i64 0)
theorem tabNew (a b : Value) : NewTab ((Tryz.zeroCells94.setIfInBounds 0 a).setIfInBounds 1 b) a b := by
  have h0 := tabZ
  generalize Tryz.zeroCells94 = Z at h0 ⊢
  injection h0 with hs hall
  refine ⟨by simpa using hs, ?_, ?_, ?_⟩
  · rw [Array.getElem?_setIfInBounds_ne (by omega), Array.getElem?_setIfInBounds_self_of_lt (by omega)]
  · rw [Array.getElem?_setIfInBounds_self_of_lt (by simp; omega)]
  · intro j h2 hj
    rw [Array.getElem?_setIfInBounds_ne (by omega), Array.getElem?_setIfInBounds_ne (by omega)]
    have hlt : j < Z.size := by omega
    have hmem : Z[j] ∈ Z.toList.drop 2 := by
      rw [List.mem_iff_getElem]
      exact ⟨j - 2, by simp; omega, by simp [show 2 + (j - 2) = j by omega]⟩
    rw [Array.getElem?_eq_getElem hlt, isZ_eq (List.all_eq_true.1 hall _ hmem)]
theorem tab_new {w : World} {g : Nat} {T : TypeId} {xs ys : Value} {C : Array Value} {n k : Nat} {c m : Nat → Nat → Nat} (hn : n < 65) (hk : k < 65) (hg : w.heap[g]? = some (.cells (C.setIfInBounds (4227 + n * 65 + k) (.int .i64 1)) T (0, 0))) (hN : NewTab C xs ys) (hc : c n k = 0) (hm : m n k = 1) : TabAt w g T xs ys (fun p q => p = n ∧ q = k) c m := by
  obtain ⟨hsz, h0, h1, hz⟩ := hN
  refine ⟨⟨_, hg, by simpa using hsz, ?_, ?_, ?_, ?_⟩⟩
  · rw [Array.getElem?_setIfInBounds_ne (by omega)]; exact h0
  · rw [Array.getElem?_setIfInBounds_ne (by omega)]; exact h1
  · intro j h2 hj
    by_cases q1 : 4227 + n * 65 + k = j
    · subst q1
      exact ⟨1, by rw [Array.getElem?_setIfInBounds_self_of_lt (by rw [hsz]; omega)]; rfl⟩
    · rw [Array.getElem?_setIfInBounds_ne q1]; exact ⟨0, hz j h2 hj⟩
  · rintro p q ⟨rfl, rfl⟩ hp hq
    constructor
    · rw [Array.getElem?_setIfInBounds_ne (by omega), hz _ (by omega) (by omega), hc]; rfl
    · rw [Array.getElem?_setIfInBounds_self_of_lt (by rw [hsz]; omega), hm]; rfl
end Go.Proofs.YtcnhlogkhnoacaaGreatDoor
