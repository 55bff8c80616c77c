/- A region that draws its order and whose operations only read, or call what leaves memory as it was but for more blocks: one walk of the text's order serves every order. -/
import Derived.Test.YtcnhlogkhnoacaaGreatDoorBasb
namespace Go.Cg
open Go.RowKit

/-- The worlds that a region may come through: all that only have more blocks. -/
structure Worlds (W : World) (ι : Type) (g : ι → World) : Prop where
  ext : ∀ i, Ext W (g i)
  on : ∀ i w', Ext (g i) w' → ∃ j, w' = g j

theorem wp_region_ext {P : Program} {id : Nat} {Q : Exit → Act → World → Prop} {a : Act} {W : World} {l : List Oper} (hm : P.follows .mixedOrders = true) (hB : Region.lexB .any l.toArray = true)
    (h : ∀ (ι : Type) (_ : Nonempty ι) (g : ι → World), Worlds W ι g → wpQuiet P l.toArray (fun w' => ∃ i, w' = g i) (fun a' => ∀ w', (∃ i, w' = g i) → Q .normal a' w') l a) :
    (Code.region id l.toArray true).wp P Q a W := by
  have h1 := h {w' : World // Ext W w'} ⟨⟨W, Ext.refl W⟩⟩ Subtype.val ⟨fun i => i.2, fun i w' hw => ⟨⟨w', i.2.trans hw⟩, rfl⟩⟩
  have hC : (fun w' => ∃ i : {w' : World // Ext W w'}, w' = i.val) { W with drawn := W.drawn + 1 } := ⟨⟨W.drew, (Ext.refl W).drew⟩, rfl⟩
  exact wp_region_quiet (C := fun w' => ∃ i : {w' : World // Ext W w'}, w' = i.val) hm hB hC (by simpa using h1)

/-- a callee that leaves memory as it was but for more blocks -/
theorem Worlds.call {P : Program} {f : FuncId} {args : Array Value} {W : World} {ι : Type} {g : ι → World} {v : Value} (hg : Worlds W ι g) {i : ι}
    (h : Calls P f args (g i) fun e w' => e = .returned v ∧ Ext (g i) w') : Calls P f args (g i) fun e w'' => e = .returned v ∧ ∃ j, w'' = g j :=
  h.mono fun _ _ ⟨he, hx⟩ => ⟨he, hg.on i _ hx⟩
theorem Worlds.same {P : Program} {f : FuncId} {args : Array Value} {W : World} {ι : Type} {g : ι → World} {v : Value} (_hg : Worlds W ι g) {i : ι}
    (h : Calls P f args (g i) fun e w' => e = .returned v ∧ w' = g i) : Calls P f args (g i) fun e w'' => e = .returned v ∧ ∃ j, w'' = g j :=
  h.mono fun _ _ ⟨he, hx⟩ => ⟨he, i, hx⟩
theorem Worlds.cell {W : World} {ι : Type} {g : ι → World} (hg : Worlds W ι g) {b o : Nat} {v : Value} (h : W.cell? ⟨b, o, none⟩ = some v) : ∀ i, (g i).cell? ⟨b, o, none⟩ = some v := fun i => by
  have hb : b < W.heap.size := World.block_lt_of_cell? W ⟨b, o, none⟩ h
  rw [(hg.ext i).facts.1 b o hb]; exact h
end Go.Cg
