/- Contracts: the reference's Same; cognatelaw02.alike, twin. -/
import Derived.Test.YtnngljflnfjppaaDoorFelm
import Derived.Test.YtnngljflnfjppaaDoorLifc
import Derived.Deep.RegionLawGrows
namespace Go.Cg
open Go.RowKit

theorem cell_same {w w' : World} {b o : Nat} (h : w'.heap[b]? = w.heap[b]?) : w'.cell? ⟨b, o, none⟩ = w.cell? ⟨b, o, none⟩ := by simp [World.cell?, h]
/-- a row stays while another block is written -/
theorem Reads.turned {w w' : World} {p : Option Addr} {k g : Nat} {f : Nat → Value} (h : Reads w p k f) (hp : ∀ b off, p = some ⟨b, off, none⟩ → b ≠ g) (hs : w.heap.size ≤ w'.heap.size)
    (hb : ∀ j, j ≠ g → j < w.heap.size → w'.heap[j]? = w.heap[j]?) : Reads w' p k f := by
  rcases h with h | ⟨b, off, e, hlt, hc⟩
  · exact .inl h
  · exact .inr ⟨b, off, e, Nat.lt_of_lt_of_le hlt hs, fun j hj => (cell_same (hb b (hp b off e) hlt)).trans (hc j hj)⟩

/-- nothing appended to no row, as one step of a region that draws -/
theorem step_append_none {P : Program} {ops : Array Oper} {o : Oper} {a : Act} {w : World} {K : Act → World → Prop} {Q : Exit → Act → World → Prop} {E : Prop}
    (hg : o.guard = none) (s x : Operand) (t : TypeId) (hop : o.op = Op.call { callee := Callee.builtin Builtin.append, args := #[s, x], argTypes := #[t, t] })
    (e : TypeId) (i : TypeInfo) (h1 : P.underlying t = some (.slice e)) (h2 : P.info? e = some i)
    (hs : a.eval s = .slice none 0 0) (sp : Option Addr) (c : Nat) (hx : a.eval x = .slice sp 0 c)
    (hK : K (a.put o.dst (.slice none 0 0)) w) :
    if Region.wanted o (yielded ops a.tmps) = true then Oper.wp P o a w K Q else E := by
  have hw : Region.wanted o (yielded ops a.tmps) = true := by simp [Region.wanted, hg]
  rw [if_pos hw]
  have hrun : (Builtin.append_ #[t, t] o.type #[.slice none 0 0, .slice sp 0 c]).run P w = .ok (.slice none 0 0) w := by
    cases sp with
    | none => simp [Builtin.append_, run_underlying h1, sizeOf, typeInfo, h2, Builtin.lenOf, Builtin.firstCells]
    | some b => simp [Builtin.append_, run_underlying h1, sizeOf, typeInfo, h2, Builtin.lenOf, Builtin.firstCells, loadCells, loadCellsFrom]
  unfold Oper.wp
  simp [execOp, hop, resolve, invoke, builtin, hs, hx, hrun, Result.andThen]
  exact hK
end Go.Cg
namespace Go.Proofs.YtnngljflnfjppaaDoor
open Go.RowKit Go.Cg Go.Shelf Go.Maps

theorem ownsRow_place {w : World} {B : Nat} {e : TypeId} {size n : Nat} {p : Option Addr} {c : Nat} {xs : List Value} (h : w.ownsRow B e size (.slice p n c) n xs) : ∀ b off, p = some ⟨b, off, none⟩ → B ≤ b := by
  intro b off e1
  rcases h.2 with ⟨hn, _⟩ | ⟨g, cap, cur, hv, hB, _⟩
  · simp only [Value.slice.injEq] at hn; rw [hn.1] at e1; cases e1
  · simp only [Value.slice.injEq] at hv
    rw [hv.1] at e1
    simp only [Option.some.injEq, Addr.mk.injEq] at e1
    omega
def featVals (A : Alpha) : List Value := (List.range A.feats.length).map fun j => .string (A.ft j)
def letVals (A : Alpha) : List Value := (List.range (A.lets.length * 3)).map A.letCell
theorem featVals_len (A : Alpha) : (featVals A).length = A.feats.length := by simp [featVals]
theorem letVals_len (A : Alpha) : (letVals A).length = A.lets.length * 3 := by simp [letVals]
theorem featVals_at (A : Alpha) {j : Nat} (h : j < A.feats.length) : (featVals A)[j]? = some (.string (A.ft j)) := by simp [featVals, h]
theorem letVals_at (A : Alpha) {j : Nat} (h : j < A.lets.length * 3) : (letVals A)[j]? = some (A.letCell j) := by simp [letVals, h]
theorem featVals_one (A : Alpha) : ∀ u ∈ featVals A, u.oneCell' = true := by
  intro u hu
  unfold featVals at hu
  obtain ⟨j, _, rfl⟩ := List.mem_map.1 hu
  rfl
theorem letVals_one (A : Alpha) : ∀ u ∈ letVals A, u.oneCell' = true := by
  intro u hu
  unfold letVals at hu
  obtain ⟨j, _, rfl⟩ := List.mem_map.1 hu
  unfold Alpha.letCell
  split
  · rfl
  · split <;> rfl
theorem two_set {w : World} {b : Nat} {a0 a1 v0 v1 : Value} {T : TypeId} (h : w.heap[b]? = some (.cells #[a0, a1] T (0, 0))) : ((w.setCell ⟨b, 0, none⟩ v0).setCell ⟨b, 1, none⟩ v1).heap[b]? = some (.cells #[v0, v1] T (0, 0)) := by
  have h1 := heap_setCell_same w b 0 _ _ v0 h
  exact heap_setCell_same _ b 1 _ _ v1 h1
theorem reads_two {w : World} {B : Nat} {v0 v1 : Value} {p : Option Addr} {k : Nat} {f : Nat → Value} (h : Reads w p k f) (hp : ∀ b off, p = some ⟨b, off, none⟩ → b ≠ B) : Reads ((w.setCell ⟨B, 0, none⟩ v0).setCell ⟨B, 1, none⟩ v1) p k f :=
  h.turned hp (by simp [World.setCell]) (fun j hj _ => by rw [heap_setCell_other _ _ _ _ (by exact hj), heap_setCell_other _ _ _ _ (by exact hj)])
theorem infoStr : (Tryd.prog.info? 9).map (fun i => (i.zero, i.size, i.bytes)) = some (some (.string ⟨#[]⟩), 1, 16) := by kernel_rfl
theorem infoLet : (Tryd.prog.info? 35).map (fun i => (i.zero, i.size, i.bytes)) = some (some (.agg #[.int .i32 0, .int .u32 0, .int .u32 0]), 3, 12) := by kernel_rfl