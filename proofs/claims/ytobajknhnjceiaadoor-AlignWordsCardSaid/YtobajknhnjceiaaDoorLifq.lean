/- A row of pairs that comes in, opened; how long it is at most. -/
import Derived.Test.YtobajknhnjceiaaDoorLifc
import Derived.Test.YtobajknhnjceiaaDoorAlgp
namespace Go.Proofs.YtobajknhnjceiaaDoor
open Go.RowKit Go.Cg Go.ChangeShapes Go.WideShapes

theorem bytesPair : Tryd.prog.bytesOf 44 = 8 := by kernel_rfl
theorem cellsPair : Tryd.prog.cellsOf 44 = 2 := by kernel_rfl
section
variable {H : Type} {enc : TypeId × Value → H} {W : World} {base : Nat} {sp : Nat → Bool}
set_option maxRecDepth 100000 in
theorem open_pairs8 {v : Value} {d : DataW H} {p : List MemPlace} (hval : Value.okWide Tryd.prog W .any base 33 v) (h : DataW.Trod enc Tryd.prog W 0 sp true 33 v d p) (hsz : ∀ n ∈ d.weights Tryd.prog 33, n ≤ reachBytes) :
    ∃ tp tc l, v = .slice tp l.length tc ∧ PairsAt W tp l ∧ l.length ≤ 17592186044416 := by
  obtain ⟨a, len, cap, rfl⟩ := okWide_slice Tryd.underlying33 hval
  obtain ⟨fuel, hf⟩ := h
  rcases Deep.open_slice Tryd.underlying33 (show DataW.trod enc Tryd.prog W 0 sp true fuel 33 [.slice a len cap] = some (d, p) from hf) with ⟨e0, ex⟩ | ⟨a', len', cap', m, n, D, Pl, e0, hb, hl, hm, hmm, ex, hel⟩
  · simp only [List.cons.injEq, and_true, Value.slice.injEq] at e0
    obtain ⟨rfl, rfl, rfl⟩ := e0
    exact ⟨none, 0, [], rfl, ⟨.inl rfl, by simp, fun i hi => absurd hi (by simp)⟩, by simp⟩
  · simp only [List.cons.injEq, and_true, Value.slice.injEq] at e0
    obtain ⟨rfl, rfl, rfl⟩ := e0
    obtain ⟨rfl, rfl⟩ := Prod.mk.inj ex
    have hlm : len ≤ m := by rw [hmm]; split <;> omega
    have hw1 : (((List.range len).map D).length + ((List.range (m - len)).map fun j => D (len + j)).length) * Tryd.prog.bytesOf 44 ≤ reachBytes :=
      hsz _ (by simp [DataW.weights, Tryd.underlying33])
    rw [bytesPair, List.length_map, List.length_map, List.length_range, List.length_range] at hw1
    unfold reachBytes at hw1
    have each : ∀ i, i < m → ∃ x : Int × Int, W.cell? (a'.add (i * 2 + 0)) = some (.int .i32 x.1) ∧ W.cell? (a'.add (i * 2 + 1)) = some (.int .i32 x.2) ∧ ((-2147483648 ≤ x.1 ∧ x.1 ≤ 2147483647) ∧ -2147483648 ≤ x.2 ∧ x.2 ≤ 2147483647) := by
      intro i hi
      obtain ⟨cs', hcs, ht⟩ := hel i hi
      rw [cellsPair] at hcs
      obtain ⟨_, hlen, hc⟩ := World.cells?_some hcs
      obtain ⟨y0, y1, n', hx, _, h0, h1⟩ := trod_struct2 Tryd.underlying44 ht
      change DataW.trod _ _ _ _ _ _ _ 21 ((cs'.drop 0).take (Tryd.prog.cellsOf 21)) = some y0 at h0
      change DataW.trod _ _ _ _ _ _ _ 21 ((cs'.drop 1).take (Tryd.prog.cellsOf 21)) = some y1 at h1
      rw [cellsI32] at h0 h1
      obtain ⟨z0, e0, _, w0⟩ := DataW.trod_int Tryd.underlying21 h0
      obtain ⟨z1, e1, _, w1⟩ := DataW.trod_int Tryd.underlying21 h1
      have b0 := bounds_i32 w0
      have b1 := bounds_i32 w1
      have c0 := hc 0 (by omega)
      have c1 := hc 1 (by omega)
      rw [Deep.add_add] at c0 c1
      have k0 : cs'[0]? = some (.int .i32 z0) := by have := congrArg (·[0]?) e0; simpa [List.getElem?_take, List.getElem?_drop] using this
      have k1 : cs'[1]? = some (.int .i32 z1) := by have := congrArg (·[0]?) e1; simpa [List.getElem?_take, List.getElem?_drop] using this
      exact ⟨(z0, z1), c0.trans k0, c1.trans k1, b0, b1⟩
    obtain ⟨Lx, hL⟩ := Deep.choose_lt each
    have hn : ∀ i, i < len → pA ((List.range len).map Lx) i = (Lx i).1 := fun i hi => by simp [pA, List.getD, hi]
    have hf : ∀ i, i < len → pB ((List.range len).map Lx) i = (Lx i).2 := fun i hi => by simp [pB, List.getD, hi]
    refine ⟨some a', cap, (List.range len).map Lx, by simp, ⟨?_, by simp; omega, fun i hi => ?_⟩, by simp; omega⟩
    · by_cases h0 : len = 0
      · exact .inl (by simp [h0])
      · have hc0 := (hL 0 (by omega)).1
        rw [show a'.add (0 * 2 + 0) = a' by simp [Addr.add]] at hc0
        have ha := plain_spot hc0
        refine .inr ⟨a'.block, a'.off, by rw [← ha], World.block_lt_of_cell? W a' hc0, fun j hj => ?_⟩
        have hj' : j < len * 2 := by simpa using hj
        obtain ⟨q0, q1, _⟩ := hL (j / 2) (by omega)
        rw [ha, add_off] at q0 q1
        have hn2 := hn (j / 2) (by omega)
        have hf2 := hf (j / 2) (by omega)
        show W.cell? _ = some (.int .i32 (if j % 2 = 0 then pA ((List.range len).map Lx) (j / 2) else pB ((List.range len).map Lx) (j / 2)))
        rw [hn2, hf2]
        by_cases r0 : j % 2 = 0
        · rw [if_pos r0, show j = j / 2 * 2 + 0 by omega, q0]; congr 4; omega
        · rw [if_neg r0, show j = j / 2 * 2 + 1 by omega, q1]; congr 4; omega
    · have hi' : i < len := by simpa using hi
      rw [hn i hi', hf i hi']; exact (hL i (by omega)).2.2
end
end Go.Proofs.YtobajknhnjceiaaDoor
