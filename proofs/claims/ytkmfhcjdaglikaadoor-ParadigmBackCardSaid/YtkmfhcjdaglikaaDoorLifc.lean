/- More that comes in, opened: rows of runes; no argument, five arguments. -/
import Derived.Test.YtkmfhcjdaglikaaDoorLifb
import Derived.ChangeSlices
import Derived.Carry
namespace Go.Proofs.YtkmfhcjdaglikaaDoor
open Go.RowKit Go.Cg Go.ChangeShapes Go.WideShapes

section
variable {H : Type} {enc : TypeId × Value → H} {P : Program} {w : World} {base : Nat} {spare : Nat → Bool} {held : Bool}
theorem trodAll_zero {args : Array Value} {ds : List (DataW H)} {ps : List MemPlace} (h : DataW.TrodAll enc P w base spare held [] args.toList ds ps) : args = #[] ∧ ds = [] ∧ ps = [] := trodAll_none h
theorem trodAll_five {t0 t1 t2 t3 t4 : TypeId} {args : Array Value} {ds : List (DataW H)} {ps : List MemPlace} (h : DataW.TrodAll enc P w base spare held [t0, t1, t2, t3, t4] args.toList ds ps) :
    ∃ v0 v1 v2 v3 v4 d0 d1 d2 d3 d4 p0 p1 p2 p3 p4, args = #[v0, v1, v2, v3, v4] ∧ ds = [d0, d1, d2, d3, d4] ∧ ps = p0 ++ p1 ++ p2 ++ p3 ++ p4 ∧ DataW.Trod enc P w base spare held t0 v0 d0 p0 ∧ DataW.Trod enc P w base spare held t1 v1 d1 p1 ∧ DataW.Trod enc P w base spare held t2 v2 d2 p2 ∧ DataW.Trod enc P w base spare held t3 v3 d3 p3 ∧ DataW.Trod enc P w base spare held t4 v4 d4 p4 := by
  obtain ⟨v0, vs0, d0, ds0, p0, q0, hargs, rfl, rfl, h0, hr0⟩ := trodAll_cons h
  obtain ⟨v1, vs1, d1, ds1, p1, q1, rfl, rfl, rfl, h1, hr1⟩ := trodAll_cons hr0
  obtain ⟨v2, vs2, d2, ds2, p2, q2, rfl, rfl, rfl, h2, hr2⟩ := trodAll_cons hr1
  obtain ⟨v3, vs3, d3, ds3, p3, q3, rfl, rfl, rfl, h3, hr3⟩ := trodAll_cons hr2
  obtain ⟨v4, vs4, d4, ds4, p4, q4, rfl, rfl, rfl, h4, hr4⟩ := trodAll_cons hr3
  obtain ⟨rfl, rfl, rfl⟩ := trodAll_nil hr4
  exact ⟨v0, v1, v2, v3, v4, d0, d1, d2, d3, d4, p0, p1, p2, p3, p4, by cases args; simp_all, rfl, by simp, h0, h1, h2, h3, h4⟩
theorem trodAll_mk5 {t0 t1 t2 t3 t4 : TypeId} {v0 v1 v2 v3 v4 : Value} {d0 d1 d2 d3 d4 : DataW H} {p0 p1 p2 p3 p4 : List MemPlace} (h0 : DataW.Trod enc P w base spare held t0 v0 d0 p0) (h1 : DataW.Trod enc P w base spare held t1 v1 d1 p1)
    (h2 : DataW.Trod enc P w base spare held t2 v2 d2 p2) (h3 : DataW.Trod enc P w base spare held t3 v3 d3 p3) (h4 : DataW.Trod enc P w base spare held t4 v4 d4 p4) :
    DataW.TrodAll enc P w base spare held [t0, t1, t2, t3, t4] [v0, v1, v2, v3, v4] [d0, d1, d2, d3, d4] (p0 ++ (p1 ++ (p2 ++ (p3 ++ p4)))) := ⟨p0, p1 ++ (p2 ++ (p3 ++ p4)), h0, trodAll_mk4 h1 h2 h3 h4, rfl⟩
end

section
variable {H : Type} {enc : TypeId × Value → H} {W : World} {base : Nat} {sp : Nat → Bool}
theorem bytesI32 : Tryd.prog.bytesOf 21 = 4 := by kernel_rfl

set_option maxRecDepth 100000 in
/-- A ROW OF RUNES -/
theorem open_runes {v : Value} {d : DataW H} {p : List MemPlace} (hval : Value.okWide Tryd.prog W .any base 75 v) (h : DataW.Trod enc Tryd.prog W 0 sp true 75 v d p) (hsz : ∀ n ∈ d.weights Tryd.prog 75, n ≤ reachBytes) :
    ∃ rp rc l, v = .slice rp l.length rc ∧ RunesAt W rp l := by
  obtain ⟨a, len, cap, rfl⟩ := okWide_slice Tryd.underlying75 hval
  obtain ⟨fuel, hf⟩ := h
  rcases open_ints Tryd.underlying75 Tryd.underlying21 cellsI32 (show DataW.trod enc Tryd.prog W 0 sp true fuel 75 [.slice a len cap] = some (d, p) from hf) with ⟨e0, ex⟩ | ⟨a', len', cap', zs, e0, hb, hl, hm, hzl, ex, hcell, hwf⟩
  · simp only [List.cons.injEq, and_true, Value.slice.injEq] at e0
    obtain ⟨rfl, rfl, rfl⟩ := e0
    exact ⟨none, 0, [], rfl, ⟨.inl rfl, by simp, fun i hi => absurd hi (by simp)⟩⟩
  · simp only [List.cons.injEq, and_true, Value.slice.injEq] at e0
    obtain ⟨rfl, rfl, rfl⟩ := e0
    obtain ⟨rfl, rfl⟩ := Prod.mk.inj ex
    have hle : len ≤ zs.length := by rw [hzl]; split <;> omega
    have hw1 : ((lits (H := H) .i32 (zs.take len)).length + (lits (H := H) .i32 (zs.drop len)).length) * Tryd.prog.bytesOf 21 ≤ reachBytes :=
      hsz _ (by simp [DataW.weights, Tryd.underlying75])
    rw [bytesI32] at hw1
    simp only [lits, List.length_map, List.length_take, List.length_drop] at hw1
    unfold reachBytes at hw1
    have htl : (zs.take len).length = len := by rw [List.length_take]; omega
    have hg : ∀ i, i < len → rn (zs.take len) i = zs.getD i 0 := fun i hi => by
      rw [rn_eq (by omega)]; simp [List.getD, show i < zs.length by omega]
    refine ⟨some a', cap, zs.take len, by rw [htl], ?_, by rw [htl]; omega, fun i hi => ?_⟩
    · by_cases h0 : len = 0
      · exact .inl (by rw [htl]; exact h0)
      · have hc0 := hcell 0 (by omega)
        rw [show a'.add 0 = a' by simp [Addr.add]] at hc0
        have ha := plain_spot hc0
        refine .inr ⟨a'.block, a'.off, by rw [← ha], World.block_lt_of_cell? W a' hc0, fun j hj => ?_⟩
        rw [htl] at hj
        have := hcell j (by omega)
        rw [ha, add_off] at this
        show W.cell? _ = some (.int .i32 (rn (zs.take len) j))
        rw [hg j hj]; exact this
    · rw [htl] at hi
      rw [hg i hi]
      have hmem : zs.getD i 0 ∈ zs := by simp only [List.getD, List.getElem?_eq_getElem (show i < zs.length by omega), Option.getD_some]; exact List.getElem_mem _
      have := bounds_i32 (hwf _ hmem)
      omega
set_option maxRecDepth 100000 in
/-- the letters' bytes of an alphabet that comes in -/
theorem alpha_bytes {fp lp : Option Addr} {n k fc lc : Nat} {d : DataW H} {p : List MemPlace} (h : DataW.Trod enc Tryd.prog W 0 sp true 26 (.agg #[.slice fp n fc, .slice lp k lc]) d p) (hsz : ∀ n ∈ d.weights Tryd.prog 26, n ≤ reachBytes) : k * 12 ≤ 140737488351232 := by
  obtain ⟨fuel, hf⟩ := h
  obtain ⟨y0, y1, n', hx, _, h0, h1⟩ := trod_struct2 Tryd.underlying26 hf
  change DataW.trod _ _ _ _ _ _ _ 23 (([.slice fp n fc, .slice lp k lc].drop 0).take (Tryd.prog.cellsOf 23)) = some y0 at h0
  change DataW.trod _ _ _ _ _ _ _ 24 (([.slice fp n fc, .slice lp k lc].drop 1).take (Tryd.prog.cellsOf 24)) = some y1 at h1
  rw [cellsLets] at h1
  simp only [Prod.mk.injEq] at hx
  obtain ⟨rfl, _⟩ := hx
  have hsz1 : ∀ n ∈ y1.1.weights Tryd.prog 24, n ≤ reachBytes := fun k hk => hsz k (by
    rw [DataW.weights, Tryd.underlying26]
    exact List.mem_append_right _ (List.mem_append_left _ hk))
  rcases Deep.open_slice Tryd.underlying24 (show DataW.trod enc Tryd.prog W 0 sp true n' 24 [.slice lp k lc] = some y1 from h1) with ⟨e0, _⟩ | ⟨a, len, cap, m, n2, D, Pl, e0, hb, hl, hm, hmm, rfl, hel⟩
  · simp only [List.cons.injEq, and_true, Value.slice.injEq] at e0
    omega
  · simp only [List.cons.injEq, and_true, Value.slice.injEq] at e0
    have hlm : len ≤ m := by rw [hmm]; split <;> omega
    have hw1 : (((List.range len).map D).length + ((List.range (m - len)).map fun j => D (len + j)).length) * Tryd.prog.bytesOf 64 ≤ reachBytes :=
      hsz1 _ (by simp [DataW.weights, Tryd.underlying24])
    rw [bytesLetter, List.length_map, List.length_map, List.length_range, List.length_range] at hw1
    unfold reachBytes at hw1
    omega
end

end Go.Proofs.YtkmfhcjdaglikaaDoor
