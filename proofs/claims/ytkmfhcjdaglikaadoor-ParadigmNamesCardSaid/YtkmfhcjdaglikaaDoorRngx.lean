/- A range over a function: regions that draw their order within a round; worlds that only gain blocks as a loop's invariant. -/
import Derived.RangeFuncNested
import Derived.RangeFuncLeaves
import Derived.Shelf.Abstract
import Derived.OwnWalkIn
import Derived.TacticsInMore
import Derived.LoopNIn
import Derived.LoopIn
import Derived.Test.YtkmfhcjdaglikaaDoorRegt
namespace Go.Cg
open Go.RowKit

section
variable {P : Program} {ops : Array Oper} {md : Region.Mode} {l n : Nat} {Q : Exit → Act → World → Prop}

theorem rows_in {row : String} {args : Array Value} {w : World} {R : Value → World → Prop} (h : Rows P row args w R) : RowsIn (Fence.wide.inRound l) n P row args w R :=
  fun c cs _ => let ⟨v, w', r, s⟩ := h c cs; ⟨v, w', r, stepsIn_wide.2 s⟩

theorem oper_in {o : Oper} (hd : ∀ c, o.op ≠ .defer c) {a : Act} {w : World} {K : Act → World → Prop} (h : o.wp P a w K Q) : o.wpIn (Fence.wide.inRound l) n P a w K Q := by
  unfold Oper.wp at h
  refine ⟨fun _ _ => trivial, ?_⟩
  rw [show (o.semAt (Fence.wide.inRound l).round a.eval) = execOp a.eval o from Oper.semAt_some l _ _ hd]
  revert h
  generalize (execOp a.eval o).run P w = r
  intro h
  cases r with
  | ok x w' =>
    cases x <;> simp only [Oper.upon, Oper.uponIn] at h ⊢ <;>
      first
        | exact h
        | exact ⟨fun h0 => (by cases h0), CallsIn.inRound l (callsIn_wide.2 h)⟩
        | exact ⟨fun h0 => (by cases h0), rows_in h⟩
  | halt x w' => cases x <;> simp only [Oper.upon, Oper.uponIn] at h ⊢ <;> exact h

/-- no operation is a defer statement -/
def noDefer (ops : Array Oper) : Bool := ops.all fun o => match o.op with | .defer _ => false | _ => true
theorem noDefer_spec (h : noDefer ops = true) : ∀ o ∈ ops, ∀ c, o.op ≠ .defer c := fun o ho c e => by
  have := (Array.all_eq_true_iff_forall_mem.1 h) o ho
  rw [e] at this; cases this

theorem op_in (hd : noDefer ops = true) (hq : ¬ LetsOut Q) {i : Nat} {K K' : Act → World → Prop} (hK : ∀ a w, K a w → K' a w) {a : Act} {w : World} (h : wpOp P ops Q i K a w) :
    wpOpIn (Fence.wide.inRound l) n P ops Q i K' a w := by
  unfold wpOp at h; unfold wpOpIn
  cases ho : ops[i]? with
  | none => rw [ho] at h; exact hK _ _ h
  | some o =>
    rw [ho] at h
    simp only at h ⊢
    split at h
    · rename_i hw
      rw [if_pos hw]
      rcases h with h | ⟨_, h⟩
      · exact Oper.wpIn_mono hK (oper_in (noDefer_spec hd o (Array.mem_of_getElem? ho)) h)
      · exact (hq h).elim
    · rename_i hw
      rw [if_neg hw]
      exact ⟨fun _ _ => trivial, hK _ _ h⟩

theorem any_in (hd : noDefer ops = true) (hq : ¬ LetsOut Q) : ∀ (f : Nat) (seen : Array Bool) (a : Act) (w : World), wpAny P md ops Q f seen a w → wpAnyIn (Fence.wide.inRound l) n P md ops Q f seen a w
  | 0, _, _, _, h => h
  | f + 1, _, _, _, h => ⟨h.1, fun i hi => op_in hd hq (fun a w => any_in hd hq f _ a w) (h.2 i hi)⟩
end

/-- wp_region_ext_tail within a round -/
theorem wpIn_region_ext_tail {P : Program} {id l m : Nat} {Q : Exit → Act → World → Prop} {a : Act} {W : World} {os : List Oper} (n : Nat) (hm : P.follows .mixedOrders = true) (hB : Region.lexTailB .any os.toArray n = true)
    (hd : noDefer os.toArray = true) (hq : ¬ LetsOut Q)
    (h : ∀ (ι : Type) (_ : Nonempty ι) (g : ι → World), Worlds W ι g → wpQuiet P os.toArray (fun w' => ∃ i, w' = g i) (fun a' => ∀ w', (∃ i, w' = g i) → wpList P os.toArray Q (os.drop n) a' w') (os.take n) a) :
    (Code.region id os.toArray true).wpIn (Fence.wide.inRound l) m P Q a W := by
  have h := h {w' : World // Ext W w'} ⟨⟨W, Ext.refl W⟩⟩ Subtype.val ⟨fun i => i.2, fun i w' hw => ⟨⟨w', i.2.trans hw⟩, rfl⟩⟩
  have hC : (∃ i : {w' : World // Ext W w'}, { W with drawn := W.drawn + 1 } = i.val) := ⟨⟨W.drew, (Ext.refl W).drew⟩, rfl⟩
  simp only [Region.lexTailB, Bool.and_eq_true, decide_eq_true_eq] at hB
  obtain ⟨⟨⟨⟨hsel, hn⟩, hs⟩, hc⟩, hlex⟩ := hB
  have hn' : n < os.length := by simpa using hn
  have htl : (os.take n).length = n := by simp; omega
  have inv0 : HeadInv .any os.toArray n (Array.replicate os.toArray.size false) :=
    ⟨by simp, fun j oj _ hl => (by rw [getD_replicate_false] at hl; cases hl), fun t _ ht => getD_in (by simpa using ht) (getD_replicate_false _ _)⟩
  have H := HeadAny.lex (P := P) (C := fun w' => ∃ i : {w' : World // Ext W w'}, w' = i.val) (md := .any) (g := os.toArray.size - n) hsel hs hc hn (os.take n) 0 _ a (fun j hj => by
    have hj' : j < n := by rw [htl] at hj; exact hj
    simp [hj']) (by simpa using htl) inv0 (by rw [htl]; exact hlex) h
  have hA := HeadAny.any (Q' := Q) (g := os.toArray.size - n) (fun seen a' w' hw' hL => by
    have := wpAny_of_seq (md := .any) (Q' := Q) (os.drop n) n seen a' w' (fun j => by simp [List.getElem?_drop]) (by rw [List.length_drop]; exact hL.1) (hL.2 w' hw')
    rwa [List.length_drop] at this) _ _ _ _ hC H
  refine wpIn_region_any hm ?_
  rw [htl, show n + (os.toArray.size - n) = os.toArray.size by omega] at hA
  exact any_in hd hq _ _ _ _ hA

theorem keeps_of_ext {B : Nat} {W W' : World} (h : Ext W W') : KeepsFrom B W W' := ⟨h.le, fun k _ _ hk _ => (h.block k (Array.getElem?_eq_some_iff.1 hk).1).trans hk⟩
theorem ownFrom_ext {β : Type} {B : Nat} {W0 : World} (hB : W0.heap.size ≤ B) : OwnFrom B (fun (_ : β) W => Ext W0 W) := ownFrom_below (Nat.le_refl _) hB
theorem Ext.putObj {W W' : World} {D : Nat} {o : Obj} (h : Ext W W') (hD : W.heap.size ≤ D) (hK : W'.heap[D]? = some o) (hc : o.isCells = false) (hw : o.isWalk = false) (o' : Obj) : Ext W (W'.putObj D o') :=
  Below.trans h (belowK_b (w := W) (Nat.le_refl _) W' D o o' hD hK hc hw)
end Go.Cg
