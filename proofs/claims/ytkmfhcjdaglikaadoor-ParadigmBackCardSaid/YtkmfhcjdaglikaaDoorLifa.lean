/- An alphabet that comes in, opened. -/
import Derived.Test.YtkmfhcjdaglikaaDoorWorda
import Derived.Deep.Strs
import Derived.Deep.Slices
import Derived.SizedLaws
import Derived.ProofKit
import Derived.OpenShut
namespace Go.Proofs.YtkmfhcjdaglikaaDoor
open Go.RowKit Go.Cg Go.ChangeShapes Go.WideShapes

theorem add_off (b off j : Nat) : (⟨b, off, none⟩ : Addr).add j = ⟨b, off + j, none⟩ := by simp [Addr.add]
theorem weights_elem {H : Type} {P : Program} {e : TypeId} : ∀ {l : List (DataW H)} {d : DataW H}, d ∈ l → ∀ n ∈ d.weights P e, n ∈ DataW.weightsAll P e l
  | x :: l, d, h, n, hn => by
    rw [DataW.weightsAll, List.mem_append]
    rcases List.mem_cons.1 h with rfl | h
    · exact .inl hn
    · exact .inr (weights_elem h n hn)

theorem cells9 : Tryd.prog.cellsOf 9 = 1 := by kernel_rfl
theorem bytes9 : Tryd.prog.bytesOf 9 = 16 := by kernel_rfl
theorem cellsLetter : Tryd.prog.cellsOf 64 = 3 := by kernel_rfl
theorem bytesLetter : Tryd.prog.bytesOf 64 = 12 := by kernel_rfl
theorem cellsI32 : Tryd.prog.cellsOf 21 = 1 := by kernel_rfl
theorem cellsU32 : Tryd.prog.cellsOf 40 = 1 := by kernel_rfl
theorem cellsStrs : Tryd.prog.cellsOf 23 = 1 := by kernel_rfl
theorem cellsLets : Tryd.prog.cellsOf 24 = 1 := by kernel_rfl
theorem cellsAlpha : Tryd.prog.cellsOf 26 = 2 := by kernel_rfl

theorem plain_spot {w : World} {a : Addr} {v : Value} (h : w.cell? a = some v) : a = ⟨a.block, a.off, none⟩ := by
  have := World.cell?_spot h
  cases a; simp at this; simp [this]

section
variable {H : Type} {enc : TypeId × Value → H} {W : World} {base : Nat} {sp : Nat → Bool}

theorem open_feats {fuel : Nat} {x0 : Value} {y : DataW H × List MemPlace} (h : DataW.trod enc Tryd.prog W base sp true fuel 23 [x0] = some y) (hsz : ∀ n ∈ y.1.weights Tryd.prog 23, n ≤ reachBytes) :
    ∃ fp fc, ∃ F : List ByteArray, x0 = .slice fp F.length fc ∧ Reads W fp F.length (fun j => .string (F.getD j ByteArray.empty)) ∧ F.length ≤ 8796093022208 ∧ ∀ i, i < F.length → (F.getD i ByteArray.empty).size ≤ 140737488351232 := by
  rcases Deep.open_strs Tryd.underlying23 Tryd.underlying9 cells9 h with ⟨e0, rfl⟩ | ⟨a, len, cap, m, Sx, e0, hb, hl, hm, hmm, rfl, hcell⟩
  · simp only [List.cons.injEq, and_true] at e0
    exact ⟨none, 0, [], e0, .inl rfl, by simp, fun i hi => absurd hi (by simp)⟩
  · simp only [List.cons.injEq, and_true] at e0
    have hlm : len ≤ m := by rw [hmm]; split <;> omega
    have hw1 : (((List.range len).map fun i => (DataW.lit (.string (Sx i).data.toList) : DataW H)).length + ((List.range (m - len)).map fun j => (DataW.lit (.string (Sx (len + j)).data.toList) : DataW H)).length) * Tryd.prog.bytesOf 9 ≤ reachBytes :=
      hsz _ (by simp [DataW.weights, Tryd.underlying23])
    rw [bytes9, List.length_map, List.length_map, List.length_range, List.length_range] at hw1
    unfold reachBytes at hw1
    have hg : ∀ i, i < len → ((List.range len).map Sx).getD i ByteArray.empty = Sx i := fun i hi => by simp [List.getD, hi]
    refine ⟨some a, cap, (List.range len).map Sx, by simpa using e0, ?_, by simp; omega, fun i hi => ?_⟩
    · by_cases h0 : len = 0
      · exact .inl (by simp [h0])
      · have hc0 := (hcell 0 (by omega)).1
        rw [show a.add 0 = a by simp [Addr.add]] at hc0
        have ha := plain_spot hc0
        refine .inr ⟨a.block, a.off, by rw [← ha], World.block_lt_of_cell? W a hc0, fun j hj => ?_⟩
        have hj' : j < len := by simpa using hj
        have := (hcell j (by omega)).1
        rw [ha, add_off] at this
        show W.cell? _ = some (.string (((List.range len).map Sx).getD j ByteArray.empty))
        rw [hg j hj']; exact this
    · have hi' : i < len := by simpa using hi
      rw [hg i hi']
      have hmem : (DataW.lit (.string (Sx i).data.toList) : DataW H) ∈ (List.range len).map fun i => (DataW.lit (.string (Sx i).data.toList) : DataW H) := List.mem_map.2 ⟨i, List.mem_range.2 hi', rfl⟩
      have := hsz (Sx i).data.toList.length (by
        rw [DataW.weights, Tryd.underlying23]
        refine List.mem_cons_of_mem _ (List.mem_append_left _ (weights_elem hmem _ ?_))
        simp [DataW.weights])
      unfold reachBytes at this
      exact this

theorem open_lets {fuel : Nat} {x0 : Value} {y : DataW H × List MemPlace} (h : DataW.trod enc Tryd.prog W base sp true fuel 24 [x0] = some y) (hsz : ∀ n ∈ y.1.weights Tryd.prog 24, n ≤ reachBytes) :
    ∃ lp lc, ∃ L : List Letter, x0 = .slice lp L.length lc ∧ Reads W lp (L.length * 3) (Alpha.letCell ⟨[], L⟩) ∧ L.length ≤ 17592186044416 ∧ ∀ i, i < L.length → (L.getD i default).wf := by
  rcases Deep.open_slice Tryd.underlying24 h with ⟨e0, rfl⟩ | ⟨a, len, cap, m, n, D, Pl, e0, hb, hl, hm, hmm, rfl, hel⟩
  · simp only [List.cons.injEq, and_true] at e0
    exact ⟨none, 0, [], e0, .inl rfl, by simp, fun i hi => absurd hi (by simp)⟩
  · simp only [List.cons.injEq, and_true] at e0
    have hlm : len ≤ m := by rw [hmm]; split <;> omega
    have hw1 : (((List.range len).map D).length + ((List.range (m - len)).map fun j => D (len + j)).length) * Tryd.prog.bytesOf 64 ≤ reachBytes :=
      hsz _ (by simp [DataW.weights, Tryd.underlying24])
    rw [bytesLetter, List.length_map, List.length_map, List.length_range, List.length_range] at hw1
    unfold reachBytes at hw1
    have each : ∀ i, i < m → ∃ L : Letter, W.cell? (a.add (i * 3 + 0)) = some (.int .i32 L.rune) ∧ W.cell? (a.add (i * 3 + 1)) = some (.int .u32 (L.plus : Int)) ∧ W.cell? (a.add (i * 3 + 2)) = some (.int .u32 (L.minus : Int)) ∧ L.wf := by
      intro i hi
      obtain ⟨cs', hcs, ht⟩ := hel i hi
      rw [cellsLetter] at hcs
      obtain ⟨_, hlen, hc⟩ := World.cells?_some hcs
      obtain ⟨y0, y1, y2, n', _, _, h0, h1, h2⟩ := Deep.trod_struct3 Tryd.underlying64 ht
      change DataW.trod _ _ _ _ _ _ _ 21 ((cs'.drop 0).take (Tryd.prog.cellsOf 21)) = some y0 at h0
      change DataW.trod _ _ _ _ _ _ _ 40 ((cs'.drop 1).take (Tryd.prog.cellsOf 40)) = some y1 at h1
      change DataW.trod _ _ _ _ _ _ _ 40 ((cs'.drop 2).take (Tryd.prog.cellsOf 40)) = some y2 at h2
      rw [cellsI32] at h0
      rw [cellsU32] at h1 h2
      obtain ⟨z0, e0, _, w0⟩ := DataW.trod_int Tryd.underlying21 h0
      obtain ⟨z1, e1, _, w1⟩ := DataW.trod_int Tryd.underlying40 h1
      obtain ⟨z2, e2, _, w2⟩ := DataW.trod_int Tryd.underlying40 h2
      have b0 := bounds_i32 w0
      have b1 := bounds_u32 w1
      have b2 := bounds_u32 w2
      have c0 := hc 0 (by omega)
      have c1 := hc 1 (by omega)
      have c2 := hc 2 (by omega)
      rw [Deep.add_add] at c0 c1 c2
      have g0 : cs'[0]? = some (.int .i32 z0) := by have := congrArg (·[0]?) e0; simpa [List.getElem?_take, List.getElem?_drop] using this
      have g1 : cs'[1]? = some (.int .u32 z1) := by have := congrArg (·[0]?) e1; simpa [List.getElem?_take, List.getElem?_drop] using this
      have g2 : cs'[2]? = some (.int .u32 z2) := by have := congrArg (·[0]?) e2; simpa [List.getElem?_take, List.getElem?_drop] using this
      refine ⟨⟨z0, z1.toNat, z2.toNat⟩, c0.trans g0, c1.trans (g1.trans ?_), c2.trans (g2.trans ?_), ?_⟩
      · simp; omega
      · simp; omega
      · unfold Letter.wf; simp; omega
    obtain ⟨Lx, hL⟩ := Deep.choose_lt each
    have hg : ∀ i, i < len → ((List.range len).map Lx).getD i default = Lx i := fun i hi => by simp [List.getD, hi]
    refine ⟨some a, cap, (List.range len).map Lx, by simpa using e0, ?_, by simp; omega, fun i hi => ?_⟩
    · by_cases h0 : len = 0
      · exact .inl (by simp [h0])
      · have hc0 := (hL 0 (by omega)).1
        rw [show a.add (0 * 3 + 0) = a by simp [Addr.add]] at hc0
        have ha := plain_spot hc0
        refine .inr ⟨a.block, a.off, by rw [← ha], World.block_lt_of_cell? W a hc0, fun j hj => ?_⟩
        have hj' : j < len * 3 := by simpa using hj
        obtain ⟨q0, q1, q2, _⟩ := hL (j / 3) (by omega)
        rw [ha, add_off] at q0 q1 q2
        have hat : Alpha.at_ ⟨[], (List.range len).map Lx⟩ (j / 3) = Lx (j / 3) := hg _ (by omega)
        unfold Alpha.letCell
        rw [hat]
        by_cases r0 : j % 3 = 0
        · rw [if_pos r0, show j = j / 3 * 3 + 0 by omega, q0]; congr 4; omega
        · rw [if_neg r0]
          by_cases r1 : j % 3 = 1
          · rw [if_pos r1, show j = j / 3 * 3 + 1 by omega, q1]; congr 5; omega
          · rw [if_neg r1, show j = j / 3 * 3 + 2 by omega, q2]; congr 5; omega
    · have hi' : i < len := by simpa using hi
      rw [hg i hi']; exact (hL i (by omega)).2.2.2

set_option maxRecDepth 100000 in
/-- AN ALPHABET -/
theorem open_alpha {v : Value} {d : DataW H} {p : List MemPlace} (hval : Value.okWide Tryd.prog W .any base 26 v) (h : DataW.Trod enc Tryd.prog W 0 sp true 26 v d p) (hsz : ∀ n ∈ d.weights Tryd.prog 26, n ≤ reachBytes) :
    ∃ fp lp fc lc A, v = .agg #[.slice fp A.feats.length fc, .slice lp A.lets.length lc] ∧ AlphaAt W fp lp A := by
  obtain ⟨cs, rfl, hcl⟩ := okWide_struct Tryd.underlying26 hval
  obtain ⟨fuel, hf⟩ := h
  obtain ⟨y0, y1, n, hx, _, h0, h1⟩ := trod_struct2 Tryd.underlying26 hf
  rw [cellsAlpha] at hcl
  obtain ⟨x0, x1, rfl⟩ : ∃ x0 x1, cs = #[x0, x1] := by
    match cs, hcl with
    | ⟨[x0, x1]⟩, _ => exact ⟨x0, x1, rfl⟩
  change DataW.trod _ _ _ _ _ _ _ 23 (([x0, x1].drop 0).take (Tryd.prog.cellsOf 23)) = some y0 at h0
  change DataW.trod _ _ _ _ _ _ _ 24 (([x0, x1].drop 1).take (Tryd.prog.cellsOf 24)) = some y1 at h1
  rw [cellsStrs] at h0
  rw [cellsLets] at h1
  simp only [Prod.mk.injEq] at hx
  obtain ⟨rfl, _⟩ := hx
  obtain ⟨fp, fc, F, rfl, hF1, hF2, hF3⟩ := open_feats (show DataW.trod enc Tryd.prog W 0 sp true n 23 [x0] = some y0 from h0) fun k hk => hsz k (by
    rw [DataW.weights, Tryd.underlying26]
    exact List.mem_append_left _ hk)
  obtain ⟨lp, lc, L, rfl, hL1, hL2, hL3⟩ := open_lets (show DataW.trod enc Tryd.prog W 0 sp true n 24 [x1] = some y1 from h1) fun k hk => hsz k (by
    rw [DataW.weights, Tryd.underlying26]
    exact List.mem_append_right _ (List.mem_append_left _ hk))
  exact ⟨fp, lp, fc, lc, ⟨F, L⟩, rfl, ⟨hF1, hL1, hF2, hL2, hL3, hF3⟩⟩
end

end Go.Proofs.YtkmfhcjdaglikaaDoor
