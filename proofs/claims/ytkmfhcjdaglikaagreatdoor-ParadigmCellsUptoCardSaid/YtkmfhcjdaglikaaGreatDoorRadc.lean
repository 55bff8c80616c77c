/- Contracts: radical.Radicals, radical.Shape, radical.Skip. -/
import Derived.Test.YtkmfhcjdaglikaaGreatDoorRadb
import Derived.Laws.ResultCell
import Derived.Laws.OwnMore
namespace Go.Cg
open Go.RowKit Go.Lib Go.Maps
theorem set_two {w : World} {b : Nat} {a0 a1 v0 v1 : Value} {T : TypeId} (h : w.heap[b]? = some (.cells #[a0, a1] T (0, 0))) : ((w.setCell ⟨b, 0, none⟩ v0).setCell ⟨b, 1, none⟩ v1).heap[b]? = some (.cells #[v0, v1] T (0, 0)) := by
  have h1 := heap_setCell_same w b 0 _ _ v0 h
  exact heap_setCell_same _ b 1 _ _ v1 h1
theorem MapFn.setCell {P : Program} {w : World} {K E : TypeId} {b n : Nat} {f : Lit → Option Lit} (h : MapFn P w K E b n f) {a : Addr} (ha : b ≠ a.block) (u : Value) : MapFn P (w.setCell a u) K E b n f := by
  obtain ⟨D, hD, hf⟩ := h
  refine ⟨D, ?_, hf⟩
  obtain ⟨es, clock, hb, r⟩ := hD
  exact ⟨es, clock, (heap_setCell_other _ _ _ _ ha).trans hb, r⟩
theorem MapFn.ne_row {P : Program} {w : World} {K E : TypeId} {b n : Nat} {f : Lit → Option Lit} (h : MapFn P w K E b n f) {B g c k m : Nat} {e : TypeId} {xs : List Value} (ho : w.ownsRow B e k (.slice (some ⟨g, 0, none⟩) m c) m xs) : b ≠ g := by
  intro hbg
  subst hbg
  obtain ⟨D, hD, hf⟩ := h
  obtain ⟨es, clock, hb, r⟩ := hD
  rcases ho.2 with ⟨hv, _⟩ | ⟨g', cap, cur, hv, _, hg, _⟩
  · cases hv
  · simp only [Value.slice.injEq, Option.some.injEq, Addr.mk.injEq, true_and, and_true] at hv
    obtain ⟨rfl, _⟩ := hv
    rw [hb] at hg; cases hg
theorem results_cell_row2 {P : Program} {fn : Func} {p u : Tmp} {ty : TypeId} (h : fn.results = #[.cell p ty, .tmp u]) (tmps : Array Value) (w : World) (g : Nat) (t : TypeId) (cs : Array Value) (fr : Nat × Nat) (d : TypeDesc) (v : Value)
    (hp : tmps.getD p undef = .pointer (some ⟨g, 0, none⟩)) (hg : w.heap[g]? = some (.cells cs t fr))
    (hu : P.underlying ty = some d) (hd : (match d with | .struct _ | .array _ _ => true | _ => false) = true) (hi : (P.info? ty).map (·.size) = some cs.size) (hv : tmps.getD u undef = v) :
    (results fn tmps).run P w = .ok (.tuple #[.agg cs, v]) w := by
  rw [results_cell_tmp h, hp, hv]
  simp [asAddr, Result.andThen, run_loadVar_row w g t ty cs fr d hg hu hd hi]
end Go.Cg
namespace Go.Proofs.YtkmfhcjdaglikaaGreatDoor
open Go.RowKit Go.Cg Go.Shelf Go.Maps

def radS (A : Alpha) (s : ByteArray) (p : Nat) : ByteArray := if radE A s p = 0 then runesBytes ((spell A s).1.filter fun r => !hasL A p 0 r) else ⟨#[]⟩
theorem radS_eq (A : Alpha) (s : ByteArray) (p : Nat) : radS A s p = if radE A s p = 0 then runesBytes ((spell A s).1.filter fun r => !hasL A p 0 r) else ⟨#[]⟩ := rfl
def shapeS (A : Alpha) (s : ByteArray) (p : Nat) : ByteArray := if radE A s p = 0 then runesBytes ((spell A s).1.map (holed (hasL A p 0))) else ⟨#[]⟩
theorem shapeS_eq (A : Alpha) (s : ByteArray) (p : Nat) : shapeS A s p = if radE A s p = 0 then runesBytes ((spell A s).1.map (holed (hasL A p 0))) else ⟨#[]⟩ := rfl
theorem zBoolM : (Tryz.prog.info? 4).map (·.zero) = some (some (.bool false)) := by kernel_rfl

end Go.Proofs.YtkmfhcjdaglikaaGreatDoor
