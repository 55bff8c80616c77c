/- A row of shapes that comes in, opened. -/
import Derived.Test.YtnngljflnfjppaaDoorLifh
import Derived.Test.YtnngljflnfjppaaDoorRadn
namespace Go.Proofs.YtnngljflnfjppaaDoor
open Go.RowKit Go.Cg Go.ChangeShapes Go.WideShapes

theorem bytesShape : Tryd.prog.bytesOf 41 = 32 := by kernel_rfl
section
variable {H : Type} {enc : TypeId × Value → H} {W : World} {base : Nat} {sp : Nat → Bool}
set_option maxRecDepth 100000 in
theorem open_shapes {v : Value} {d : DataW H} {p : List MemPlace} (hval : Value.okWide Tryd.prog W .any base 49 v) (h : DataW.Trod enc Tryd.prog W 0 sp true 49 v d p) (hsz : ∀ n ∈ d.weights Tryd.prog 49, n ≤ reachBytes) :
    ∃ tp tc L, v = .slice tp L.length tc ∧ ShapesAt W tp L := by
  obtain ⟨a, len, cap, rfl⟩ := okWide_slice Tryd.underlying49 hval
  obtain ⟨fuel, hf⟩ := h
  rcases Deep.open_slice Tryd.underlying49 (show DataW.trod enc Tryd.prog W 0 sp true fuel 49 [.slice a len cap] = some (d, p) from hf) with ⟨e0, ex⟩ | ⟨a', len', cap', m, n, D, Pl, e0, hb, hl, hm, hmm, ex, hel⟩
  · simp only [List.cons.injEq, and_true, Value.slice.injEq] at e0
    obtain ⟨rfl, rfl, rfl⟩ := e0
    exact ⟨none, 0, [], rfl, ⟨.inl rfl, by simp, fun i hi => absurd hi (by simp)⟩⟩
  · simp only [List.cons.injEq, and_true, Value.slice.injEq] at e0
    obtain ⟨rfl, rfl, rfl⟩ := e0
    obtain ⟨rfl, rfl⟩ := Prod.mk.inj ex
    have hlm : len ≤ m := by rw [hmm]; split <;> omega
    have hw1 : (((List.range len).map D).length + ((List.range (m - len)).map fun j => D (len + j)).length) * Tryd.prog.bytesOf 41 ≤ reachBytes :=
      hsz _ (by simp [DataW.weights, Tryd.underlying49])
    rw [bytesShape, List.length_map, List.length_map, List.length_range, List.length_range] at hw1
    unfold reachBytes at hw1
    have each : ∀ i, i < m → ∃ x : ByteArray × ByteArray, W.cell? (a'.add (i * 2 + 0)) = some (.string x.1) ∧ W.cell? (a'.add (i * 2 + 1)) = some (.string x.2) ∧ (i < len → x.1.size ≤ 140737488351232 ∧ x.2.size ≤ 140737488351232) := by
      intro i hi
      obtain ⟨cs', hcs, ht⟩ := hel i hi
      rw [cellsShape] at hcs
      obtain ⟨_, hlen, hc⟩ := World.cells?_some hcs
      obtain ⟨y0, y1, n', hx, _, h0, h1⟩ := trod_struct2 Tryd.underlying41 ht
      change DataW.trod _ _ _ _ _ _ _ 9 ((cs'.drop 0).take (Tryd.prog.cellsOf 9)) = some y0 at h0
      change DataW.trod _ _ _ _ _ _ _ 9 ((cs'.drop 1).take (Tryd.prog.cellsOf 9)) = some y1 at h1
      rw [cells9] at h0 h1
      simp only [Prod.mk.injEq] at hx
      obtain ⟨hD, _⟩ := hx
      obtain ⟨nm, e0, g0, _⟩ := DataW.trod_string Tryd.underlying9 h0
      obtain ⟨fm, e1, g1, _⟩ := DataW.trod_string Tryd.underlying9 h1
      have c0 := hc 0 (by omega)
      have c1 := hc 1 (by omega)
      rw [Deep.add_add] at c0 c1
      have k0 : cs'[0]? = some (.string nm) := by have := congrArg (·[0]?) e0; simpa [List.getElem?_take, List.getElem?_drop] using this
      have k1 : cs'[1]? = some (.string fm) := by have := congrArg (·[0]?) e1; simpa [List.getElem?_take, List.getElem?_drop] using this
      refine ⟨(nm, fm), c0.trans k0, c1.trans k1, fun hil => ?_⟩
      have hmem : D i ∈ (List.range len).map D := List.mem_map.2 ⟨i, List.mem_range.2 hil, rfl⟩
      have hall : ∀ q ∈ (D i).weights Tryd.prog 41, q ≤ reachBytes := fun q hq => hsz q (by
        rw [DataW.weights, Tryd.underlying49]
        exact List.mem_cons_of_mem _ (List.mem_append_left _ (weights_elem hmem q hq)))
      rw [hD] at hall
      constructor
      · have := hall nm.data.toList.length (by
          rw [DataW.weights, Tryd.underlying41]
          refine List.mem_append_left _ ?_
          rw [g0]; simp [DataW.weights])
        unfold reachBytes at this
        exact this
      · have := hall fm.data.toList.length (by
          rw [DataW.weights, Tryd.underlying41]
          refine List.mem_append_right _ (List.mem_append_left _ ?_)
          rw [g1]; simp [DataW.weights])
        unfold reachBytes at this
        exact this
    obtain ⟨Lx, hL⟩ := Deep.choose_lt each
    have hn : ∀ i, i < len → sName ((List.range len).map Lx) i = (Lx i).1 := fun i hi => by simp [sName, List.getD, hi]
    have hf : ∀ i, i < len → sForm ((List.range len).map Lx) i = (Lx i).2 := fun i hi => by simp [sForm, List.getD, hi]
    refine ⟨some a', cap, (List.range len).map Lx, by simp, ⟨?_, by simp; omega, fun i hi => ?_⟩⟩
    · by_cases h0 : len = 0
      · exact .inl (by simp [h0])
      · have hc0 := (hL 0 (by omega)).1
        rw [show a'.add (0 * 2 + 0) = a' by simp [Addr.add]] at hc0
        have ha := plain_spot hc0
        refine .inr ⟨a'.block, a'.off, by rw [← ha], World.block_lt_of_cell? W a' hc0, fun j hj => ?_⟩
        have hj' : j < len * 2 := by simpa using hj
        obtain ⟨q0, q1, _⟩ := hL (j / 2) (by omega)
        rw [ha, add_off] at q0 q1
        have hn2 := hn (j / 2) (by omega)
        have hf2 := hf (j / 2) (by omega)
        show W.cell? _ = some (if j % 2 = 0 then .string (sName ((List.range len).map Lx) (j / 2)) else .string (sForm ((List.range len).map Lx) (j / 2)))
        rw [hn2, hf2]
        by_cases r0 : j % 2 = 0
        · rw [if_pos r0, show j = j / 2 * 2 + 0 by omega, q0]; congr 4; omega
        · rw [if_neg r0, show j = j / 2 * 2 + 1 by omega, q1]; congr 4; omega
    · have hi' : i < len := by simpa using hi
      rw [hn i hi', hf i hi']; exact (hL i (by omega)).2.2 hi'
end
end Go.Proofs.YtnngljflnfjppaaDoor
