/- Contracts: cognateref13.parted, Radicals, Shape. -/
import Derived.Test.YtkmfhcjdaglikaaGreatDoorRadc
import Derived.Test.YtkmfhcjdaglikaaGreatDoorRada
import Derived.Test.YtkmfhcjdaglikaaGreatDoorRegt
import Derived.Test.YtkmfhcjdaglikaaGreatDoorHeld
namespace Go.Cg
open Go.RowKit Go.Lib
theorem ownsRow_some {w : World} {B : Nat} {e : TypeId} {size n : Nat} {p : Option Addr} {c : Nat} {xs : List Value} (h : w.ownsRow B e size (.slice p n c) n xs) (h0 : 0 < n) : ∃ g, p = some ⟨g, 0, none⟩ ∧ n ≤ c ∧ B ≤ g := by
  rcases h.2 with ⟨_, hn⟩ | ⟨g, cap, cur, hv, hb, hg, hn, hc, _⟩
  · omega
  · simp only [Value.slice.injEq, true_and] at hv
    obtain ⟨rfl, rfl⟩ := hv
    exact ⟨g, rfl, hn, hb⟩
/-- the cells of a row of bools: of which letters has the class -/
def boolCells (l : List Int) (q : Int → Bool) (k : Nat) : List Value := (l.take k).map fun r => .bool (q r)
theorem boolCells_zero (l : List Int) (q : Int → Bool) : boolCells l q 0 = [] := rfl
theorem boolCells_succ {l : List Int} {q : Int → Bool} {k : Nat} (h : k < l.length) : boolCells l q (k + 1) = boolCells l q k ++ [.bool (q (rn l k))] := by
  unfold boolCells; rw [take_rn h, List.map_append]; rfl
theorem boolCells_at {l : List Int} {q : Int → Bool} {j k : Nat} (h : j < k) (hk : k ≤ l.length) : (boolCells l q k)[j]? = some (.bool (q (rn l j))) := by
  unfold boolCells
  rw [List.getElem?_map, List.getElem?_take, if_pos h, List.getElem?_eq_getElem (by omega), rn_eq (by omega)]; rfl
end Go.Cg
namespace Go.Proofs.YtkmfhcjdaglikaaGreatDoor
open Go.RowKit Go.Cg Go.Shelf Go.Maps

theorem infoBo : (Tryz.prog.info? 4).map (fun i => (i.zero, i.size, i.bytes)) = some (some (.bool false), 1, 1) := by kernel_rfl
theorem classE_may {A : Alpha} (hA : A.Ok) (p : Nat) : classE A p 0 = if mayB A.feats.length p 0 = true then 0 else 20 := by unfold classE; rw [if_pos hA]

end Go.Proofs.YtkmfhcjdaglikaaGreatDoor
