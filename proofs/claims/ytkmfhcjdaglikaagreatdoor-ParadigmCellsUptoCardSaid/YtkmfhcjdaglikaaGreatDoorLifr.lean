/- An affix that comes in, a paradigm that comes in, opened; where the whole is of small bulk its texts are small. -/
import Derived.Test.YtkmfhcjdaglikaaGreatDoorLifc
import Derived.Test.YtkmfhcjdaglikaaGreatDoorPara
import Derived.Test.YtkmfhcjdaglikaaGreatDoorRows
import Derived.Lib.SmallJoins
namespace Go.Proofs.YtkmfhcjdaglikaaGreatDoor.bulks
theorem one_le {H : Type} (d : DataW H) : 1 ≤ Rows.uptoBulk d := by
  cases d with
  | lit l => cases l <;> simp [Rows.uptoBulk]
  | nil => simp [Rows.uptoBulk]
  | ptr d => simp [Rows.uptoBulk]
  | slice elems spare => simp [Rows.uptoBulk]
  | agg parts => simp [Rows.uptoBulk]
  | iface t d => simp [Rows.uptoBulk]
  | map entries => simp [Rows.uptoBulk]
  | held h => simp [Rows.uptoBulk]
theorem part_le {H : Type} {d : DataW H} {l : List (DataW H)} (h : d ∈ l) : Rows.uptoBulk d ≤ Rows.uptoBulkAll l := by
  induction l with
  | nil => cases h
  | cons x r ih =>
    simp only [Rows.uptoBulkAll]
    cases List.mem_cons.1 h with
    | inl e => subst e; omega
    | inr e => have := ih e; omega
theorem slice_elems {H : Type} (elems spare : List (DataW H)) : Rows.uptoBulkAll elems + 1 ≤ Rows.uptoBulk (.slice elems spare) := by
  simp only [Rows.uptoBulk]; omega
theorem agg_parts {H : Type} (parts : List (DataW H)) : Rows.uptoBulkAll parts + 1 = Rows.uptoBulk (.agg parts) := by simp only [Rows.uptoBulk]
theorem string_eq {H : Type} (bytes : List UInt8) : Rows.uptoBulk (DataW.lit (H := H) (.string bytes)) = bytes.length + 1 := by simp [Rows.uptoBulk]
end Go.Proofs.YtkmfhcjdaglikaaGreatDoor.bulks
namespace Go.Proofs.YtkmfhcjdaglikaaGreatDoor
open Go.RowKit Go.Cg Go.ChangeShapes Go.WideShapes

theorem cellsAff : Tryz.prog.cellsOf 28 = 4 := by kernel_rfl
theorem bytesAff : Tryz.prog.bytesOf 28 = 48 := by kernel_rfl
theorem cellsCell : Tryz.prog.cellsOf 54 = 2 := by kernel_rfl
theorem bytesCell : Tryz.prog.bytesOf 54 = 32 := by kernel_rfl
theorem cellsPara : Tryz.prog.cellsOf 39 = 2 := by kernel_rfl
theorem cellsAffs : Tryz.prog.cellsOf 52 = 1 := by kernel_rfl
theorem cellsCells : Tryz.prog.cellsOf 37 = 1 := by kernel_rfl
theorem cellsU8 : Tryz.prog.cellsOf 5 = 1 := by kernel_rfl
theorem cellsU64 : Tryz.prog.cellsOf 40 = 1 := by kernel_rfl
theorem cellsI64 : Tryz.prog.cellsOf 3 = 1 := by kernel_rfl

section
variable {H : Type} {enc : TypeId × Value → H} {W : World} {base : Nat} {sp : Nat → Bool}

set_option maxRecDepth 100000 in
/-- the four cells of an affix -/
theorem aff_cells {fuel : Nat} {cs : List Value} {y : DataW H × List MemPlace} (h : DataW.trod enc Tryz.prog W base sp true fuel 28 cs = some y) (hsz : ∀ n ∈ y.1.weights Tryz.prog 28, n ≤ reachBytes) :
    ∃ x : Aff, cs = [.int .u8 (x.kind : Int), .string x.form, .string x.other, .int .i64 x.pos] ∧ x.wf ∧ (Rows.uptoBulk y.1 ≤ 1048576 → x.small) := by
  obtain ⟨y0, y1, y2, y3, n', hx, hl, h0, h1, h2, h3⟩ := Go.Joins.trod_struct4 Tryz.underlying28 h
  rw [cellsAff] at hl
  change DataW.trod _ _ _ _ _ _ _ 5 ((cs.drop 0).take (Tryz.prog.cellsOf 5)) = some y0 at h0
  change DataW.trod _ _ _ _ _ _ _ 9 ((cs.drop 1).take (Tryz.prog.cellsOf 9)) = some y1 at h1
  change DataW.trod _ _ _ _ _ _ _ 9 ((cs.drop 2).take (Tryz.prog.cellsOf 9)) = some y2 at h2
  change DataW.trod _ _ _ _ _ _ _ 3 ((cs.drop 3).take (Tryz.prog.cellsOf 3)) = some y3 at h3
  rw [cellsU8] at h0
  rw [cells9] at h1 h2
  rw [cellsI64] at h3
  obtain ⟨z0, e0, _, w0⟩ := DataW.trod_int Tryz.underlying5 h0
  obtain ⟨fm, e1, g1, _⟩ := DataW.trod_string Tryz.underlying9 h1
  obtain ⟨om, e2, g2, _⟩ := DataW.trod_string Tryz.underlying9 h2
  obtain ⟨z3, e3, _, w3⟩ := DataW.trod_int Tryz.underlying3 h3
  have b0 := bounds_u8 w0
  have b3 := bounds_i64 w3
  match cs, hl with
  | [c0, c1, c2, c3], _ =>
    have k0 : c0 = .int .u8 z0 := by simpa using e0
    have k1 : c1 = .string fm := by simpa using e1
    have k2 : c2 = .string om := by simpa using e2
    have k3 : c3 = .int .i64 z3 := by simpa using e3
    have hD : y.1 = .agg [y0.1, y1.1, y2.1, y3.1] := by rw [hx]
    have s1 : fm.size ≤ 140737488351232 := by
      have := hsz fm.data.toList.length (by
        rw [hD, DataW.weights, Tryz.underlying28]
        refine List.mem_append_right _ (List.mem_append_left _ ?_)
        rw [g1]; simp [DataW.weights])
      unfold reachBytes at this
      exact this
    have s2 : om.size ≤ 140737488351232 := by
      have := hsz om.data.toList.length (by
        rw [hD, DataW.weights, Tryz.underlying28]
        refine List.mem_append_right _ (List.mem_append_right _ (List.mem_append_left _ ?_))
        rw [g2]; simp [DataW.weights])
      unfold reachBytes at this
      exact this
    refine ⟨⟨z0.toNat, fm, om, z3⟩, ?_, ?_, fun hb => ?_⟩
    · rw [k0, k1, k2, k3]
      have : ((z0.toNat : Nat) : Int) = z0 := by omega
      rw [this]
    · unfold Aff.wf; dsimp only; omega
    · rw [hD, ← bulks.agg_parts] at hb
      have p1 := bulks.part_le (d := y1.1) (l := [y0.1, y1.1, y2.1, y3.1]) (by simp)
      have p2 := bulks.part_le (d := y2.1) (l := [y0.1, y1.1, y2.1, y3.1]) (by simp)
      have p8 : Rows.uptoBulk y1.1 = fm.data.toList.length + 1 := by rw [g1, bulks.string_eq]
      have p9 : Rows.uptoBulk y2.1 = om.data.toList.length + 1 := by rw [g2, bulks.string_eq]
      have q1 : fm.data.toList.length = fm.size := rfl
      have q2 : om.data.toList.length = om.size := rfl
      unfold Aff.small; dsimp only; omega

set_option maxRecDepth 100000 in
/-- A ROW OF AFFIXES -/
theorem open_affs {fuel : Nat} {x0 : Value} {y : DataW H × List MemPlace} (h : DataW.trod enc Tryz.prog W base sp true fuel 52 [x0] = some y) (hsz : ∀ n ∈ y.1.weights Tryz.prog 52, n ≤ reachBytes) :
    ∃ (p : Option Addr × Nat) (xs : List Aff), x0 = .slice p.1 xs.length p.2 ∧ AffsAt W p.1 xs ∧ (Rows.uptoBulk y.1 ≤ 1048576 → ∀ i, i < xs.length → (ax xs i).small) := by
  rcases Deep.open_slice Tryz.underlying52 h with ⟨e0, rfl⟩ | ⟨a, len, cap, m, n, D, Pl, e0, hb, hl, hm, hmm, rfl, hel⟩
  · simp only [List.cons.injEq, and_true] at e0
    exact ⟨(none, 0), [], e0, ⟨.inl rfl, fun i hi => absurd hi (by simp), by simp⟩, fun _ i hi => absurd hi (by simp)⟩
  · simp only [List.cons.injEq, and_true] at e0
    have hlm : len ≤ m := by rw [hmm]; split <;> omega
    have hw1 : (((List.range len).map D).length + ((List.range (m - len)).map fun j => D (len + j)).length) * Tryz.prog.bytesOf 28 ≤ reachBytes :=
      hsz _ (by simp [DataW.weights, Tryz.underlying52])
    rw [bytesAff, List.length_map, List.length_map, List.length_range, List.length_range] at hw1
    unfold reachBytes at hw1
    have each : ∀ i, i < len → ∃ x : Aff, (∀ j, j < 4 → W.cell? (a.add (i * 4 + j)) = some ([Value.int .u8 (x.kind : Int), .string x.form, .string x.other, .int .i64 x.pos].getD j undef)) ∧ x.wf ∧ (Rows.uptoBulk (D i) ≤ 1048576 → x.small) := by
      intro i hi
      obtain ⟨cs', hcs, ht⟩ := hel i (by omega)
      rw [cellsAff] at hcs
      obtain ⟨_, hlen, hc⟩ := World.cells?_some hcs
      have hmem : D i ∈ (List.range len).map D := List.mem_map.2 ⟨i, List.mem_range.2 hi, rfl⟩
      obtain ⟨x, hx, hwf, hsm⟩ := aff_cells ht fun q hq => hsz q (by
        rw [DataW.weights, Tryz.underlying52]
        exact List.mem_cons_of_mem _ (List.mem_append_left _ (weights_elem hmem q hq)))
      refine ⟨x, fun j hj => ?_, hwf, hsm⟩
      have c0 := hc j (by omega)
      rw [Deep.add_add, hx] at c0
      rw [c0]
      match j, hj with
      | 0, _ => rfl
      | 1, _ => rfl
      | 2, _ => rfl
      | 3, _ => rfl
    haveI : Inhabited Aff := ⟨⟨0, ByteArray.empty, ByteArray.empty, 0⟩⟩
    obtain ⟨Lx, hL⟩ := Deep.choose_lt each
    have hg : ∀ i, i < len → ax ((List.range len).map Lx) i = Lx i := fun i hi => by simp [ax, List.getD, hi]
    refine ⟨(some a, cap), (List.range len).map Lx, by simpa using e0, ⟨?_, fun i hi => ?_, by simp; omega⟩, fun hbk i hi => ?_⟩
    · by_cases h0 : len = 0
      · exact .inl (by simp [h0])
      · have hc0 := (hL 0 (by omega)).1 0 (by omega)
        rw [show a.add (0 * 4 + 0) = a by simp [Addr.add]] at hc0
        have ha := plain_spot hc0
        refine .inr ⟨a.block, a.off, by rw [← ha], World.block_lt_of_cell? W a hc0, fun j hj => ?_⟩
        have hj' : j < len * 4 := by simpa using hj
        have q0 := (hL (j / 4) (by omega)).1 (j % 4) (by omega)
        rw [ha, add_off, show j / 4 * 4 + j % 4 = j by omega] at q0
        rw [q0]
        unfold affCell
        rw [hg _ (by omega)]
        rcases (by omega : j % 4 = 0 ∨ j % 4 = 1 ∨ j % 4 = 2 ∨ j % 4 = 3) with e | e | e | e <;> rw [e] <;> rfl
    · have hi' : i < len := by simpa using hi
      rw [hg i hi']; exact (hL i hi').2.1
    · have hi' : i < len := by simpa using hi
      rw [hg i hi']
      refine (hL i hi').2.2 ?_
      have h1 := bulks.slice_elems ((List.range len).map D) ((List.range (m - len)).map fun j => D (len + j))
      have h2 := bulks.part_le (d := D i) (l := (List.range len).map D) (List.mem_map.2 ⟨i, List.mem_range.2 hi', rfl⟩)
      dsimp only at hbk
      omega

set_option maxRecDepth 100000 in
/-- A ROW OF A PARADIGM's CELLS -/
theorem open_cells {fuel : Nat} {x0 : Value} {y : DataW H × List MemPlace} (h : DataW.trod enc Tryz.prog W base sp true fuel 37 [x0] = some y) (hsz : ∀ n ∈ y.1.weights Tryz.prog 37, n ≤ reachBytes) :
    ∃ (p : Option Addr) (c : Nat) (cs : List PCell) (g : Nat → Option Addr × Nat), x0 = .slice p cs.length c ∧ CellsAt W p cs g ∧ (Rows.uptoBulk y.1 ≤ 1048576 → ∀ k, k < cs.length → ∀ i, i < (cx cs k).affs.length → (ax (cx cs k).affs i).small) := by
  rcases Deep.open_slice Tryz.underlying37 h with ⟨e0, rfl⟩ | ⟨a, len, cap, m, n, D, Pl, e0, hb, hl, hm, hmm, rfl, hel⟩
  · simp only [List.cons.injEq, and_true] at e0
    exact ⟨none, 0, [], fun _ => (none, 0), e0, ⟨.inl rfl, fun i hi => absurd hi (by simp), fun i hi => absurd hi (by simp), by simp⟩, fun _ i hi => absurd hi (by simp)⟩
  · simp only [List.cons.injEq, and_true] at e0
    have hlm : len ≤ m := by rw [hmm]; split <;> omega
    have hw1 : (((List.range len).map D).length + ((List.range (m - len)).map fun j => D (len + j)).length) * Tryz.prog.bytesOf 54 ≤ reachBytes :=
      hsz _ (by simp [DataW.weights, Tryz.underlying37])
    rw [bytesCell, List.length_map, List.length_map, List.length_range, List.length_range] at hw1
    unfold reachBytes at hw1
    have each : ∀ i, i < len → ∃ x : PCell × (Option Addr × Nat), W.cell? (a.add (i * 2 + 0)) = some (.int .u64 (x.1.tags : Int)) ∧ W.cell? (a.add (i * 2 + 1)) = some (.slice x.2.1 x.1.affs.length x.2.2) ∧ AffsAt W x.2.1 x.1.affs ∧ x.1.tags < 18446744073709551616 ∧ (Rows.uptoBulk (D i) ≤ 1048576 → ∀ j, j < x.1.affs.length → (ax x.1.affs j).small) := by
      intro i hi
      obtain ⟨cs', hcs, ht⟩ := hel i (by omega)
      rw [cellsCell] at hcs
      obtain ⟨_, hlen, hc⟩ := World.cells?_some hcs
      have hmem : D i ∈ (List.range len).map D := List.mem_map.2 ⟨i, List.mem_range.2 hi, rfl⟩
      obtain ⟨y0, y1, n', hx, _, h0, h1⟩ := trod_struct2 Tryz.underlying54 ht
      change DataW.trod _ _ _ _ _ _ _ 40 ((cs'.drop 0).take (Tryz.prog.cellsOf 40)) = some y0 at h0
      change DataW.trod _ _ _ _ _ _ _ 52 ((cs'.drop 1).take (Tryz.prog.cellsOf 52)) = some y1 at h1
      rw [cellsU64] at h0
      rw [cellsAffs] at h1
      simp only [Prod.mk.injEq] at hx
      obtain ⟨hD, _⟩ := hx
      match cs', hlen with
      | [c0, c1], _ =>
        obtain ⟨z0, e0, _, w0⟩ := DataW.trod_int Tryz.underlying40 h0
        have k0 : c0 = .int .u64 z0 := by simpa using e0
        have b0 := bounds_u64 w0
        have hall : ∀ q ∈ (D i).weights Tryz.prog 54, q ≤ reachBytes := fun q hq => hsz q (by
          rw [DataW.weights, Tryz.underlying37]
          exact List.mem_cons_of_mem _ (List.mem_append_left _ (weights_elem hmem q hq)))
        obtain ⟨p, xs, ex, hA, hS⟩ := open_affs (show DataW.trod enc Tryz.prog W base sp true n' 52 [c1] = some y1 from h1) fun q hq => hall q (by
          rw [hD, DataW.weights, Tryz.underlying54]
          exact List.mem_append_right _ (List.mem_append_left _ hq))
        have q0 := hc 0 (by simp)
        have q1 := hc 1 (by simp)
        rw [Deep.add_add] at q0 q1
        have hz : ((z0.toNat : Nat) : Int) = z0 := by omega
        refine ⟨(⟨z0.toNat, xs⟩, p), ?_, ?_, hA, by dsimp only; omega, fun hbk => hS ?_⟩
        · dsimp only; rw [hz, ← k0]; exact q0
        · dsimp only; rw [← ex]; exact q1
        · rw [hD, ← bulks.agg_parts] at hbk
          have := bulks.part_le (d := y1.1) (l := [y0.1, y1.1]) (by simp)
          omega
    haveI : Inhabited (PCell × (Option Addr × Nat)) := ⟨(⟨0, []⟩, (none, 0))⟩
    obtain ⟨Lx, hL⟩ := Deep.choose_lt each
    have hg : ∀ i, i < len → cx ((List.range len).map fun k => (Lx k).1) i = (Lx i).1 := fun i hi => by simp [cx, List.getD, hi]
    refine ⟨some a, cap, (List.range len).map fun k => (Lx k).1, fun k => (Lx k).2, by simpa using e0, ⟨?_, fun i hi => ?_, fun i hi => ?_, by simp; omega⟩, fun hbk i hi => ?_⟩
    · by_cases h0 : len = 0
      · exact .inl (by simp [h0])
      · have hc0 := (hL 0 (by omega)).1
        rw [show a.add (0 * 2 + 0) = a by simp [Addr.add]] at hc0
        have ha := plain_spot hc0
        refine .inr ⟨a.block, a.off, by rw [← ha], World.block_lt_of_cell? W a hc0, fun j hj => ?_⟩
        have hj' : j < len * 2 := by simpa using hj
        obtain ⟨q0, q1, _⟩ := hL (j / 2) (by omega)
        rw [ha, add_off] at q0 q1
        unfold parCell
        rw [hg _ (by omega)]
        by_cases r0 : j % 2 = 0
        · rw [if_pos r0, show j = j / 2 * 2 + 0 by omega, q0]
          have : (j / 2 * 2 + 0) / 2 = j / 2 := by omega
          rw [this]
        · rw [if_neg r0, show j = j / 2 * 2 + 1 by omega, q1]
          have : (j / 2 * 2 + 1) / 2 = j / 2 := by omega
          rw [this]
    · have hi' : i < len := by simpa using hi
      rw [hg i hi']; exact (hL i hi').2.2.1
    · have hi' : i < len := by simpa using hi
      rw [hg i hi']; exact (hL i hi').2.2.2.1
    · have hi' : i < len := by simpa using hi
      rw [hg i hi']
      refine (hL i hi').2.2.2.2 ?_
      have h1 := bulks.slice_elems ((List.range len).map D) ((List.range (m - len)).map fun j => D (len + j))
      have h2 := bulks.part_le (d := D i) (l := (List.range len).map D) (List.mem_map.2 ⟨i, List.mem_range.2 hi', rfl⟩)
      dsimp only at hbk
      omega

set_option maxRecDepth 100000 in
/-- AN AFFIX -/
theorem open_affix {v : Value} {d : DataW H} {p : List MemPlace} (hval : Value.okWide Tryz.prog W .any base 28 v) (h : DataW.Trod enc Tryz.prog W 0 sp true 28 v d p) (hsz : ∀ n ∈ d.weights Tryz.prog 28, n ≤ reachBytes) :
    ∃ x : Aff, v = x.val ∧ x.wf ∧ (Rows.uptoBulk d ≤ 1048576 → x.small) := by
  obtain ⟨cs, rfl, hcl⟩ := okWide_struct Tryz.underlying28 hval
  obtain ⟨fuel, hf⟩ := h
  obtain ⟨x, hx, hwf, hs⟩ := aff_cells (y := (d, p)) hf hsz
  refine ⟨x, ?_, hwf, hs⟩
  unfold Aff.val
  congr 1
  exact Array.toList_inj.1 hx

set_option maxRecDepth 100000 in
/-- A PARADIGM -/
theorem open_para {v : Value} {d : DataW H} {p : List MemPlace} (hval : Value.okWide Tryz.prog W .any base 39 v) (h : DataW.Trod enc Tryz.prog W 0 sp true 39 v d p) (hsz : ∀ n ∈ d.weights Tryz.prog 39, n ≤ reachBytes) :
    ∃ (cp : Option Addr) (cc : Nat) (P : Para) (g : Nat → Option Addr × Nat), v = .agg #[.string P.name, .slice cp P.cells.length cc] ∧ P.name.size ≤ 140737488351232 ∧ CellsAt W cp P.cells g ∧
      (Rows.uptoBulk d ≤ 1048576 → P.name.size ≤ 1048576 ∧ ∀ k, k < P.cells.length → ∀ i, i < (cx P.cells k).affs.length → (ax (cx P.cells k).affs i).small) := by
  obtain ⟨cs, rfl, hcl⟩ := okWide_struct Tryz.underlying39 hval
  obtain ⟨fuel, hf⟩ := h
  obtain ⟨y0, y1, n, hx, _, h0, h1⟩ := trod_struct2 Tryz.underlying39 hf
  rw [cellsPara] at hcl
  obtain ⟨x0, x1, rfl⟩ : ∃ x0 x1, cs = #[x0, x1] := by
    match cs, hcl with
    | ⟨[x0, x1]⟩, _ => exact ⟨x0, x1, rfl⟩
  change DataW.trod _ _ _ _ _ _ _ 9 (([x0, x1].drop 0).take (Tryz.prog.cellsOf 9)) = some y0 at h0
  change DataW.trod _ _ _ _ _ _ _ 37 (([x0, x1].drop 1).take (Tryz.prog.cellsOf 37)) = some y1 at h1
  rw [cells9] at h0
  rw [cellsCells] at h1
  simp only [Prod.mk.injEq] at hx
  obtain ⟨hD, _⟩ := hx
  obtain ⟨nm, e0, g0, _⟩ := DataW.trod_string Tryz.underlying9 h0
  have k0 : x0 = .string nm := by simpa using e0
  obtain ⟨cp, cc, cs, g, ex, hC, hS⟩ := open_cells (show DataW.trod enc Tryz.prog W 0 sp true n 37 [x1] = some y1 from h1) fun q hq => hsz q (by
    rw [hD, DataW.weights, Tryz.underlying39]
    exact List.mem_append_right _ (List.mem_append_left _ hq))
  have s0 : nm.size ≤ 140737488351232 := by
    have := hsz nm.data.toList.length (by
      rw [hD, DataW.weights, Tryz.underlying39]
      refine List.mem_append_left _ ?_
      rw [g0]; simp [DataW.weights])
    unfold reachBytes at this
    exact this
  refine ⟨cp, cc, ⟨nm, cs⟩, g, by rw [k0, ex], s0, hC, fun hb => ?_⟩
  rw [hD, ← bulks.agg_parts] at hb
  have p0 := bulks.part_le (d := y0.1) (l := [y0.1, y1.1]) (by simp)
  have p1 := bulks.part_le (d := y1.1) (l := [y0.1, y1.1]) (by simp)
  have p9 : Rows.uptoBulk y0.1 = nm.data.toList.length + 1 := by rw [g0, bulks.string_eq]
  have q0 : nm.data.toList.length = nm.size := rfl
  exact ⟨by dsimp only; omega, hS (by omega)⟩
end
end Go.Proofs.YtkmfhcjdaglikaaGreatDoor
