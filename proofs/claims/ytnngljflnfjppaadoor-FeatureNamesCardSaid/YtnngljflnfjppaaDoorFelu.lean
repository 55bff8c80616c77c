/- Values of FeatureNames, in plain Lean. -/
import Derived.Test.YtnngljflnfjppaaDoorFels
import Derived.Test.YtnngljflnfjppaaDoorLitz
namespace Go.Proofs.YtnngljflnfjppaaDoor
open Go.RowKit Go.Cg Go.Shelf Go.Maps

theorem nv1 : checkN (fullA 24 128) = 0 := by decide +kernel
theorem nv2 : checkN (fullA 25 128) = 7 := by decide +kernel
theorem nv3 : checkN (fullA 24 129) = 7 := by decide +kernel
theorem nv4 : checkN (fullA 24 0) = 7 := by decide +kernel
theorem nv5 : checkN (fullA 0 1) = 7 := by decide +kernel

set_option maxRecDepth 100000 in
theorem mk129 (W : World) : (Instr.makeSlice 33 (.int .i64 129) (.int .i64 129)).run Tryd.prog W = .ok (.slice (some ⟨W.heap.size, 0, none⟩) 129 129) (W.alloc (.cells (Array.replicate 129 (.int .i32 0)) 21 (0, 0))) := by kernel_rfl
set_option maxRecDepth 100000 in
theorem mk128 (W : World) : (Instr.makeSlice 33 (.int .i64 128) (.int .i64 128)).run Tryd.prog W = .ok (.slice (some ⟨W.heap.size, 0, none⟩) 128 128) (W.alloc (.cells (Array.replicate 128 (.int .i32 0)) 21 (0, 0))) := by kernel_rfl
set_option maxRecDepth 100000 in
theorem le129 : leastE (fullA 24 128) (List.replicate 129 0) = 4 := by decide +kernel
set_option maxRecDepth 100000 in
theorem le128 : leastE (fullA 24 128) (List.replicate 128 0) = 5 := by decide +kernel
theorem one_let (W : World) (r : Int) (T : TypeId) (h1 : -2147483648 ≤ r) (h2 : r ≤ 2147483647) : AlphaAt (W.alloc (.cells #[.int .i32 r, .int .u32 0, .int .u32 0] T (0, 0))) none (some ⟨W.heap.size, 0, none⟩) ⟨[], [⟨r, 0, 0⟩]⟩ :=
  alpha_lets (L := [⟨r, 0, 0⟩]) (heap_alloc_new W _) (by simp [Letter.wfB]; omega) (by simp)
def mayL : List Int := [97, 122, 65, 90, 161, 55295, 57344, 65532, 65534, 1114111]
def notL : List Int := [0, 32, 48, 95, 64, 91, 96, 123, 160, 127, 55296, 57343, 65533, 1114112, -1]
theorem mayN : ∀ i : Fin 10, checkN ⟨[], [⟨rn mayL i, 0, 0⟩]⟩ = 0 := by decide +kernel
theorem notN : ∀ i : Fin 15, checkN ⟨[], [⟨rn notL i, 0, 0⟩]⟩ = 7 := by decide +kernel
theorem runes_block {W : World} {b : Nat} {T : TypeId} {l : List Int} (hb : W.heap[b]? = some (.cells (l.map (Value.int .i32)).toArray T (0, 0))) (hn : l.length ≤ 1000) (hw : l.all (fun r => decide (-2147483648 ≤ r ∧ r ≤ 2147483647)) = true) : RunesAt W (some ⟨b, 0, none⟩) l :=
  ⟨reads_heap hb (fun j hj => by rw [Nat.zero_add, List.getElem?_toArray, List.getElem?_map, List.getElem?_eq_getElem hj, rn_eq hj]; rfl), by omega, fun i hi => by rw [rn_eq hi]; exact of_decide_eq_true (List.all_eq_true.1 hw _ (List.getElem_mem hi))⟩
theorem zeros_at (W : World) (n T : Nat) (hn : n ≤ 35184372088832) : RunesAt (W.alloc (.cells (Array.replicate n (.int .i32 0)) T (0, 0))) (some ⟨W.heap.size, 0, none⟩) (List.replicate n 0) := by
  refine ⟨.inr ⟨_, _, rfl, by rw [size_alloc]; omega, fun j hj => ?_⟩, by rw [List.length_replicate]; exact hn, fun i hi => ?_⟩
  · rw [List.length_replicate] at hj
    rw [Nat.zero_add, (Ext.refl (W.alloc (.cells (Array.replicate n (.int .i32 0)) T (0, 0)))).cell0 j]
    simp [rn, hj]
  · rw [List.length_replicate] at hi
    simp [rn, hi]

set_option maxRecDepth 100000 in
theorem mk33 (W : World) : (Instr.makeSlice 36 (.int .i64 33) (.int .i64 33)).run Tryd.prog W = .ok (.slice (some ⟨W.heap.size, 0, none⟩) 33 33) (W.alloc (.cells (Array.replicate 33 (.int .u8 0)) 5 (0, 0))) := by kernel_rfl
/-- block B has 33 cells, of which those below k are 120 -/
def Fill (B T : Nat) (w : World) (k : Nat) : Prop := ∃ cs : Array Value, w.heap[B]? = some (.cells cs T (0, 0)) ∧ cs.size = 33 ∧ ∀ j, j < k → cs[j]? = some (.int .u8 120)
theorem Fill.start (W : World) (v : Value) (T : Nat) : Fill W.heap.size T (W.alloc (.cells (Array.replicate 33 v) T (0, 0))) 0 :=
  ⟨_, heap_alloc_new W _, by simp, fun j hj => by omega⟩
theorem Fill.set {B T : Nat} {w : World} {k : Nat} (h : Fill B T w k) (hk : k < 33) : Fill B T (w.setCell ⟨B, k, none⟩ (.int .u8 120)) (k + 1) := by
  obtain ⟨cs, hb, hs, hc⟩ := h
  refine ⟨_, heap_setCell_same w B k cs T _ hb, by simpa using hs, fun j hj => ?_⟩
  rw [Array.getElem?_setIfInBounds]
  by_cases e : k = j
  · subst e; simp [hs, hk]
  · rw [if_neg e]; exact hc j (by omega)
theorem Fill.cell {B T : Nat} {w : World} {k j : Nat} (h : Fill B T w k) (hj : j < 33) : ∃ v, w.cell? ⟨B, j, none⟩ = some v ∧ w.frozen? ⟨B, j, none⟩ = false ∧ B < w.heap.size := by
  obtain ⟨cs, hb, hs, hc⟩ := h
  exact ⟨cs[j]'(by omega), by simp [World.cell?, hb, hs, hj], by simp [World.frozen?, hb], (Array.getElem?_eq_some_iff.1 hb).1⟩
theorem Fill.ext {B T : Nat} {w w' : World} {k : Nat} (h : Fill B T w k) (hx : Ext w w') : Fill B T w' k := by
  obtain ⟨cs, hb, r⟩ := h
  exact ⟨cs, (Below.block hx B (Array.getElem?_eq_some_iff.1 hb).1).trans hb, r⟩
def xsB (n : Nat) : ByteArray := ⟨(List.replicate n (120 : UInt8)).toArray⟩
theorem Fill.text {B T : Nat} {w : World} (h : Fill B T w 33) (n c : Nat) (hn : n ≤ 33) : (convert 36 9 (.slice (some ⟨B, 0, none⟩) n c)).run Tryd.prog w = .ok (.string (xsB n)) w := by
  obtain ⟨cs, hb, hs, hc⟩ := h
  have := run_convert_bytes_back (P := Tryd.prog) w 36 9 5 ⟨B, 0, none⟩ c (List.replicate n (120 : UInt8)) Tryd.underlying36 Tryd.underlying5 Tryd.underlying9 (fun j hj => by
    rw [List.length_replicate] at hj
    rw [add_off, Nat.zero_add]
    have e : w.cell? ⟨B, j, none⟩ = cs[j]? := by simp [World.cell?, hb]
    rw [e, hc j (by omega)]; simp)
  rwa [List.length_replicate] at this
theorem alpha_two {W : World} {bF b TF T : Nat} {F : List ByteArray} {L : List Letter} (hf : W.heap[bF]? = some (.cells (F.map Value.string).toArray TF (0, 0))) (hl : W.heap[b]? = some (.cells (letRow L).toArray T (0, 0)))
    (hw : L.all Letter.wfB = true) (hn : L.length ≤ 1000) (hm : F.length ≤ 1000) (hs : F.all (fun s => decide (s.size ≤ 140737488351232)) = true) : AlphaAt W (some ⟨bF, 0, none⟩) (some ⟨b, 0, none⟩) ⟨F, L⟩ :=
  alpha_lit hf hl (fun j hj => by rw [Nat.zero_add, List.getElem?_toArray, List.getElem?_map, List.getElem?_eq_getElem hj]; simp [List.getD, hj]) (fun j hj => by rw [Nat.zero_add, List.getElem?_toArray]) hw hn hm hs
theorem alpha_nth {W : World} {bF b TF T : Nat} {F : List ByteArray} {L : List Letter} (hf : W.heap[bF]? = some (.cells (F.map Value.string).toArray TF (0, 0))) (hl : W.heap[b]? = some (.cells (letRow L).toArray T (0, 0)))
    (hw : L.all Letter.wfB = true) (hn : L.length ≤ 1000) (hs : F.all (fun s => decide (s.size ≤ 140737488351232)) = true) {i : Nat} (hi : i < F.length) : AlphaAt W (some ⟨bF, i, none⟩) (some ⟨b, 0, none⟩) ⟨[F.getD i ByteArray.empty], L⟩ :=
  alpha_lit hf hl (fun j hj => by
      have : j = 0 := by simpa using hj
      subst this
      rw [Nat.add_zero, List.getElem?_toArray, List.getElem?_map, List.getElem?_eq_getElem hi]; simp [List.getD, hi]) (fun j hj => by rw [Nat.zero_add, List.getElem?_toArray]) hw hn (by simp) (by
      have := List.all_eq_true.1 hs _ (List.getElem_mem hi)
      simpa [List.getD, hi] using this)
def aL : List Letter := [⟨97, 0, 0⟩]
theorem goodN : checkN ⟨[xsB 32, ⟨#[121]⟩], aL⟩ = 0 := by decide +kernel
def badL : List ByteArray := [xsB 33, ⟨#[]⟩, ⟨#[65]⟩, ⟨#[97, 49]⟩, ⟨#[195, 169]⟩, ⟨#[97, 32, 98]⟩]
theorem badN : ∀ i : Fin 6, checkN ⟨[badL.getD i ByteArray.empty], aL⟩ = 7 := by decide +kernel
theorem twiceN : checkN ⟨[⟨#[120]⟩, ⟨#[120]⟩], aL⟩ = 7 := by decide +kernel
theorem bothN : checkN ⟨[], [⟨97, 0, 0⟩, ⟨97, 0, 0⟩]⟩ = 7 := by decide +kernel
theorem onePM : checkN ⟨[⟨#[120]⟩], [⟨97, 1, 1⟩]⟩ = 7 := by decide +kernel
theorem twoP : checkN ⟨[⟨#[120]⟩], [⟨97, 2, 0⟩]⟩ = 7 := by decide +kernel

end Go.Proofs.YtnngljflnfjppaaDoor
