/- A shape that comes in, opened. -/
import Derived.Test.YtcnhlogkhnoacaaGreatDoorLifc
namespace Go.Proofs.YtcnhlogkhnoacaaGreatDoor
open Go.RowKit Go.Cg Go.ChangeShapes Go.WideShapes

theorem cellsShape : Tryz.prog.cellsOf 41 = 2 := by kernel_rfl
section
variable {H : Type} {enc : TypeId × Value → H} {W : World} {base : Nat} {sp : Nat → Bool}
set_option maxRecDepth 100000 in
/-- A SHAPE -/
theorem open_shape {v : Value} {d : DataW H} {p : List MemPlace} (hval : Value.okWide Tryz.prog W .any base 41 v) (h : DataW.Trod enc Tryz.prog W 0 sp true 41 v d p) (hsz : ∀ n ∈ d.weights Tryz.prog 41, n ≤ reachBytes) :
    ∃ nm fm : ByteArray, v = .agg #[.string nm, .string fm] ∧ nm.size ≤ 140737488351232 ∧ fm.size ≤ 140737488351232 := by
  obtain ⟨cs, rfl, hcl⟩ := okWide_struct Tryz.underlying41 hval
  obtain ⟨fuel, hf⟩ := h
  obtain ⟨y0, y1, n, hx, _, h0, h1⟩ := trod_struct2 Tryz.underlying41 hf
  rw [cellsShape] at hcl
  obtain ⟨x0, x1, rfl⟩ : ∃ x0 x1, cs = #[x0, x1] := by
    match cs, hcl with
    | ⟨[x0, x1]⟩, _ => exact ⟨x0, x1, rfl⟩
  change DataW.trod _ _ _ _ _ _ _ 9 (([x0, x1].drop 0).take (Tryz.prog.cellsOf 9)) = some y0 at h0
  change DataW.trod _ _ _ _ _ _ _ 9 (([x0, x1].drop 1).take (Tryz.prog.cellsOf 9)) = some y1 at h1
  rw [cells9] at h0 h1
  simp only [Prod.mk.injEq] at hx
  obtain ⟨rfl, _⟩ := hx
  obtain ⟨nm, e0, g0, _⟩ := DataW.trod_string Tryz.underlying9 (show DataW.trod enc Tryz.prog W 0 sp true n 9 [x0] = some y0 from h0)
  obtain ⟨fm, e1, g1, _⟩ := DataW.trod_string Tryz.underlying9 (show DataW.trod enc Tryz.prog W 0 sp true n 9 [x1] = some y1 from h1)
  simp only [List.cons.injEq, and_true] at e0 e1
  subst e0
  subst e1
  refine ⟨nm, fm, rfl, ?_, ?_⟩
  · have := hsz nm.data.toList.length (by
      rw [DataW.weights, Tryz.underlying41]
      refine List.mem_append_left _ ?_
      rw [g0]; simp [DataW.weights])
    unfold reachBytes at this
    exact this
  · have := hsz fm.data.toList.length (by
      rw [DataW.weights, Tryz.underlying41]
      refine List.mem_append_right _ (List.mem_append_left _ ?_)
      rw [g1]; simp [DataW.weights])
    unfold reachBytes at this
    exact this
end

end Go.Proofs.YtcnhlogkhnoacaaGreatDoor
