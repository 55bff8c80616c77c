/- Contracts: cognateref17.Twin, Same; and the law ParadigmCells, walked: of every paradigm, cell, word and tags: the form, the stems, the cells with tags, or the error (PRINTED by mkpasi.py). -/
import Derived.Test.YtkmfhcjdaglikaaGreatDoorPamb
import Derived.Test.YtkmfhcjdaglikaaGreatDoorRegt
import Derived.Deep.AppendLies
import Derived.OneCell
import Derived.Test.YtkmfhcjdaglikaaGreatDoorPasy
namespace Go.Cg
open Go.RowKit Go.Lib
theorem Reads.grown {w w' : World} {row : Option Nat} {p : Option Addr} {k : Nat} {f : Nat → Value} (h : Reads w p k f) (hg : w.grownBy w' row) (hne : ∀ b off, p = some ⟨b, off, none⟩ → some b ≠ row) : Reads w' p k f := by
  rcases h with h | ⟨b, off, hp, hb, hc⟩
  · exact .inl h
  · refine .inr ⟨b, off, hp, Nat.lt_of_lt_of_le hb hg.size, fun j hj => ?_⟩
    have e := hg.block b hb (hne b off hp)
    have h3 := hc j hj
    unfold World.cell? at h3 ⊢
    rw [e]; exact h3
theorem AffsAt.grown {w w' : World} {row : Option Nat} {p : Option Addr} {xs : List Aff} (h : AffsAt w p xs) (hg : w.grownBy w' row) (hne : ∀ b off, p = some ⟨b, off, none⟩ → some b ≠ row) : AffsAt w' p xs := ⟨h.reads.grown hg hne, h.wf, h.big⟩
/-- the cells of the first k cells of a paradigm -/
def parList (cs : List PCell) (g : Nat → Option Addr × Nat) (k : Nat) : List Value := (List.range (k * 2)).map (parCell cs g)
theorem cell_of9 {W : World} {B j : Nat} {cs : Array Value} {t : TypeId} {v : Value} (h : W.heap[B]? = some (.cells cs t (0, 0))) (hv : cs[j]? = some v) : W.cell? ⟨B, j, none⟩ = some v := by
  simp [World.cell?, h, hv]
theorem four_froz9 {w : World} {b : Nat} {cs : Array Value} {T : TypeId} (h : w.heap[b]? = some (.cells cs T (0, 0))) (j : Nat) : w.frozen? ⟨b, j, none⟩ = false := Lib.frozen_of_heap h j
theorem parList_zero (cs : List PCell) (g : Nat → Option Addr × Nat) : parList cs g 0 = [] := rfl
def updG (g : Nat → Option Addr × Nat) (k : Nat) (x : Option Addr × Nat) (j : Nat) : Option Addr × Nat := if j = k then x else g j
theorem parList_succ (cs : List PCell) (g : Nat → Option Addr × Nat) (k : Nat) (x : Option Addr × Nat) : parList cs (updG g k x) (k + 1) = parList cs g k ++ [.int .u64 ((cx cs k).tags : Int), .slice x.1 (cx cs k).affs.length x.2] := by
  unfold parList
  rw [show (k + 1) * 2 = k * 2 + 1 + 1 by omega, List.range_succ, List.range_succ, List.map_append, List.map_append, List.append_assoc]
  congr 1
  · apply List.map_congr_left
    intro j hj
    have hj2 := List.mem_range.1 hj
    unfold parCell updG
    rw [if_neg (show ¬ j / 2 = k by omega)]
  · obtain ⟨h1, h2⟩ := parCell_at cs (updG g k x) k
    simp only [List.map_cons, List.map_nil, h1, h2, List.cons_append, List.nil_append]
    unfold updG
    rw [if_pos rfl]
theorem parList_at {cs : List PCell} {g : Nat → Option Addr × Nat} {k j : Nat} (h : j < k * 2) : (parList cs g k)[j]? = some (parCell cs g j) := by
  unfold parList
  rw [List.getElem?_map, List.getElem?_range h]; rfl
end Go.Cg
namespace Go.Proofs.YtkmfhcjdaglikaaGreatDoor
open Go.RowKit Go.Cg Go.Shelf Go.Maps

theorem affs_set_ne {w : World} {p : Option Addr} {xs : List Aff} (h : AffsAt w p xs) {a : Addr} (hb : ∀ b off, p = some ⟨b, off, none⟩ → b ≠ a.block) (u : Value) : AffsAt (w.setCell a u) p xs := ⟨Reads.setCell_ne h.reads hb u, h.wf, h.big⟩
/-- a paradigm that is being made: its box at D, its rows from D + 1 on -/
def TwinI (cs : List PCell) (D : Nat) (nm : ByteArray) (W : World) (v : Value) (k : Nat) (g : Nat → Option Addr × Nat) : Prop :=
  W.heap[D]? = some (.cells #[.string nm, v] 39 (0, 0)) ∧ W.ownsRow (D + 1) 54 2 v k (parList cs g k) ∧ ∀ j, j < k → AffsAt W (g j).1 (cx cs j).affs ∧ ∀ b off, (g j).1 = some ⟨b, off, none⟩ → D + 1 ≤ b ∧ b < W.heap.size ∧ some b ≠ v.ownBlock
theorem twin_ext {cs : List PCell} {D : Nat} {nm : ByteArray} {W W' : World} {v : Value} {k : Nat} {g : Nat → Option Addr × Nat} (h : TwinI cs D nm W v k g) (hx : Ext W W') : TwinI cs D nm W' v k g :=
  ⟨(hx.block D (Array.getElem?_eq_some_iff.1 h.1).1).trans h.1, ownsRow_ext h.2.1 hx, fun j hj => ⟨(h.2.2 j hj).1.mono hx, fun b off e => ⟨((h.2.2 j hj).2 b off e).1, Nat.lt_of_lt_of_le ((h.2.2 j hj).2 b off e).2.1 hx.le, ((h.2.2 j hj).2 b off e).2.2⟩⟩⟩
theorem twin_box {cs : List PCell} {D : Nat} {nm : ByteArray} {W : World} {v : Value} {k : Nat} {g : Nat → Option Addr × Nat} (h : TwinI cs D nm W v k g) {C o : Nat} (hC : C ≠ D) (hv : v.ownBlock ≠ some C) (hr : ∀ j, j < k → ∀ b off, (g j).1 = some ⟨b, off, none⟩ → b ≠ C) (u : Value) : TwinI cs D nm (W.setCell ⟨C, o, none⟩ u) v k g := by
  refine ⟨(heap_setCell_other _ _ _ _ (fun e => hC e.symm)).trans h.1, ownsRow_setCell_other h.2.1 hv u, fun j hj => ⟨affs_set_ne (h.2.2 j hj).1 (fun b off e => hr j hj b off e) u, fun b off e => ?_⟩⟩
  obtain ⟨h1, h2, h3⟩ := (h.2.2 j hj).2 b off e
  exact ⟨h1, Nat.lt_of_lt_of_le h2 (Nat.le_of_eq (World.size_setCell _ _ _).symm), h3⟩
/-- one cell more -/
theorem twin_more {cs : List PCell} {D : Nat} {nm : ByteArray} {W W' : World} {v : Value} {k : Nat} {g : Nat → Option Addr × Nat} (h : TwinI cs D nm W v k g) {x : Option Addr × Nat} (hx : AffsAt W x.1 (cx cs k).affs) (hxb : ∀ b off, x.1 = some ⟨b, off, none⟩ → D + 1 ≤ b ∧ b < W.heap.size ∧ some b ≠ v.ownBlock)
    {g4 cap : Nat} (hg : W.grownBy W' v.ownBlock) (h4 : W'.ownsRow (D + 1) 54 2 (.slice (some ⟨g4, 0, none⟩) (k + 1) cap) (k + 1) (parList cs (updG g k x) (k + 1))) (hl : v.ownBlock = some g4 ∨ g4 = W.heap.size) (hD : v.ownBlock ≠ some D) :
    TwinI cs D nm (W'.setCell ⟨D, 1, none⟩ (.slice (some ⟨g4, 0, none⟩) (k + 1) cap)) (.slice (some ⟨g4, 0, none⟩) (k + 1) cap) (k + 1) (updG g k x) := by
  have hDl := (Array.getElem?_eq_some_iff.1 h.1).1
  have hD2 : W'.heap[D]? = some (.cells #[.string nm, v] 39 (0, 0)) := (hg.block D hDl (fun e => hD e.symm)).trans h.1
  have hlt := h4.lt g4 rfl
  have hall : ∀ j, j < k + 1 → AffsAt W (updG g k x j).1 (cx cs j).affs ∧ ∀ b off, (updG g k x j).1 = some ⟨b, off, none⟩ → D + 1 ≤ b ∧ b < W.heap.size ∧ some b ≠ v.ownBlock := fun j hj => by
    unfold updG
    by_cases e : j = k
    · subst e; rw [if_pos rfl]; exact ⟨hx, hxb⟩
    · rw [if_neg e]; exact h.2.2 j (by omega)
  refine ⟨heap_setCell_same _ D 1 _ _ _ hD2, ownsRow_setCell_other h4 (by simp [Value.ownBlock]; omega) _, fun j hj => ?_⟩
  obtain ⟨a1, a2⟩ := hall j hj
  refine ⟨affs_set_ne (a1.grown hg fun b off e => (a2 b off e).2.2) (fun b off e => by have := (a2 b off e).1; show b ≠ D; omega) _, fun b off e => ?_⟩
  obtain ⟨b1, b2, b3⟩ := a2 b off e
  refine ⟨b1, Nat.lt_of_lt_of_le (Nat.lt_of_lt_of_le b2 hg.size) (Nat.le_of_eq (World.size_setCell _ _ _).symm), ?_⟩
  rcases hl with hl | hl
  · rw [hl] at b3; exact b3
  · simp [Value.ownBlock]; omega
/-- the paradigm that was made -/
theorem twin_at {cs : List PCell} {D : Nat} {nm : ByteArray} {W : World} {v : Value} {g : Nat → Option Addr × Nat} (h : TwinI cs D nm W v cs.length g) (ht : ∀ i, i < cs.length → (cx cs i).tags < 18446744073709551616) (hb : cs.length ≤ 4398046511104) : ∃ p c, v = .slice p cs.length c ∧ CellsAt W p cs g := by
  obtain ⟨p, c, rfl⟩ := ownsRow_slice h.2.1
  exact ⟨p, c, rfl, ownsRow_reads h.2.1 (fun j hj => parList_at hj), fun i hi => (h.2.2 i hi).1, ht, hb⟩

theorem infoAf : (Tryz.prog.info? 28).map (fun i => (i.zero, i.size, i.bytes)) = some (some (.agg #[.int .u8 0, .string ⟨#[]⟩, .string ⟨#[]⟩, .int .i64 0]), 4, 48) := by kernel_rfl
theorem infoCe : (Tryz.prog.info? 54).map (fun i => (i.zero, i.size, i.bytes)) = some (some (.agg #[.int .u64 0, .slice none 0 0]), 2, 32) := by kernel_rfl
def affList (xs : List Aff) : List Value := (List.range (xs.length * 4)).map (affCell xs)
theorem affList_at {xs : List Aff} {j : Nat} (h : j < xs.length * 4) : (affList xs)[j]? = some (affCell xs j) := by
  unfold affList
  rw [List.getElem?_map, List.getElem?_range h]; rfl
theorem affList_len (xs : List Aff) : (affList xs).length = xs.length * 4 := by simp [affList]
theorem affList_one (xs : List Aff) : ∀ u ∈ affList xs, u.oneCell' = true := fun u hu => by
  unfold affList at hu
  obtain ⟨j, _, rfl⟩ := List.mem_map.1 hu
  unfold affCell
  split
  · rfl
  · split
    · rfl
    · split <;> rfl
theorem affs_src {w : World} {p : Option Addr} {xs : List Aff} (h : AffsAt w p xs) : xs.length ≠ 0 → ∃ ad, p = some ad ∧ ∀ (j : Nat) (u : Value), (affList xs)[j]? = some u → w.cell? (ad.add j) = some u := fun h0 => by
  rcases h.reads with h1 | ⟨b, off, hp, hb, hc⟩
  · omega
  · refine ⟨_, hp, fun j u hu => ?_⟩
    have hj : j < xs.length * 4 := by
      rw [← affList_len]; exact (List.getElem?_eq_some_iff.1 hu).1
    rw [affList_at hj] at hu
    cases hu
    rw [show ((⟨b, off, none⟩ : Addr).add j) = ⟨b, off + j, none⟩ by simp [Addr.add]]
    exact hc j hj
theorem own_affs {B : Nat} {w : World} {p : Option Addr} {c : Nat} {xs : List Aff} (h : w.ownsRow B 28 4 (.slice p xs.length c) xs.length (affList xs)) (hw : ∀ i, i < xs.length → (ax xs i).wf) (hb : xs.length ≤ 4398046511104) : AffsAt w p xs ∧ ∀ b off, p = some ⟨b, off, none⟩ → B ≤ b ∧ b < w.heap.size := by
  refine ⟨⟨ownsRow_reads h (fun j hj => affList_at hj), hw, hb⟩, fun b off e => ?_⟩
  subst e
  rcases h.2 with ⟨h1, _⟩ | ⟨g, cap, cur, hv, hb2, hg, _⟩
  · cases h1
  · simp only [Value.slice.injEq, Option.some.injEq, Addr.mk.injEq, true_and, and_true] at hv
    obtain ⟨⟨rfl, _⟩, _⟩ := hv
    exact ⟨hb2, (Array.getElem?_eq_some_iff.1 hg).1⟩

theorem two_cells (w : World) (a b : Value) (T : TypeId) : ∀ j u, [a, b][j]? = some u → (w.alloc (.cells #[a, b] T (0, 0))).cell? ((⟨w.heap.size, 0, none⟩ : Addr).add j) = some u := fun j u h => by
  have e : ((⟨w.heap.size, 0, none⟩ : Addr).add j) = ⟨w.heap.size, j, none⟩ := by
    unfold Addr.add
    split
    · rename_i h0; rw [h0]
    · simp
  rw [e, (Ext.refl (w.alloc (.cells #[a, b] T (0, 0)))).cell0 j]
  match j, h with
  | 0, h => exact h
  | 1, h => exact h
  | j + 2, h => simp at h
def TwinRes (P : Para) (e : Ending) (w' : World) : Prop := ∃ p c g, e = .returned (.agg #[.string P.name, .slice p P.cells.length c]) ∧ CellsAt w' p P.cells g

set_option maxRecDepth 100000 in
set_option maxHeartbeats 4000000 in
theorem Twin17_any (pp : Option Addr) (pc : Nat) (P : Para) (g : Nat → Option Addr × Nat) (hsm : ∀ k, k < P.cells.length → (cx P.cells k).affs.length ≤ 60) (hn : P.cells.length ≤ 600) (w : World) (hP : CellsAt w pp P.cells g) :
    Calls Tryz.prog 12 #[.agg #[.string P.name, .slice pp P.cells.length pc]] w fun e w' => TwinRes P e w' ∧ Ext w w' := by
  obtain ⟨i0, hi, hz0, hz1, hz2⟩ := info_parts infoAf
  obtain ⟨j0, hj, hy0, hy1, hy2⟩ := info_parts infoCe
  have hx0 : Ext w ((w.alloc (.cells #[.string P.name, .slice pp P.cells.length pc] 39)).alloc (.cells #[.string ⟨#[]⟩, .slice none 0 0] 39)) := ((Ext.refl _).alloc _).alloc _
  obtain ⟨W2, hW2⟩ : ∃ W2, (w.alloc (.cells #[.string P.name, .slice pp P.cells.length pc] 39)).alloc (.cells #[.string ⟨#[]⟩, .slice none 0 0] 39) = W2 := ⟨_, rfl⟩
  have hsz : W2.heap.size = w.heap.size + 2 := by rw [← hW2, size_alloc, size_alloc]
  have HB := Lib.hid (fun W (hW : Ext W2 W) => (by
    rw [← hW2] at hW
    have h1 : Ext (w.alloc (.cells #[.string P.name, .slice pp P.cells.length pc] 39)) W := ((Ext.refl _).alloc _).trans hW
    have c2 := hW.cell0 0
    have c3 := hW.cell0 1
    have f2 := hW.froz0 0
    have f3 := hW.froz0 1
    have l2 := hW.lt0
    rw [size_alloc] at c2 c3 f2 f3 l2
    exact ⟨h1.cell0 0, h1.cell0 1, h1.lt0, c2, c3, f2, f3, l2⟩ : W.cell? ⟨w.heap.size, 0, none⟩ = some (.string P.name) ∧ W.cell? ⟨w.heap.size, 1, none⟩ = some (.slice pp P.cells.length pc) ∧ w.heap.size < W.heap.size ∧ W.cell? ⟨w.heap.size + 1, 0, none⟩ = some (.string ⟨#[]⟩) ∧ W.cell? ⟨w.heap.size + 1, 1, none⟩ = some (.slice none 0 0) ∧ W.frozen? ⟨w.heap.size + 1, 0, none⟩ = false ∧ W.frozen? ⟨w.heap.size + 1, 1, none⟩ = false ∧ w.heap.size + 1 < W.heap.size))
  have HRB := Lib.hid (fun W (hW : Ext W2 W) => (by
    refine (hW.block _ (by rw [hsz]; omega)).trans ?_
    rw [← hW2]
    have := heap_alloc_new (w.alloc (.cells #[.string P.name, .slice pp P.cells.length pc] 39)) (.cells #[.string ⟨#[]⟩, .slice none 0 0] 39)
    rw [size_alloc] at this
    exact this : W.heap[w.heap.size + 1]? = some (.cells #[.string ⟨#[]⟩, .slice none 0 0] 39 (0, 0))))
  rw [hW2] at hx0
  have HX := Lib.hid hx0
  have HSZ := Lib.hid hsz
  clear hx0 hsz
  obtain ⟨b0, b1, bl, r0, r1, rf0, rf1, rl⟩ := HB.out _ (Ext.refl _)
  have hpb := hP.big
  have hpt := hP.tags
  have HSM := Lib.hid hsm
  have HPT := Lib.hid hpt
  have HPC := Lib.hid (fun W (hW : Ext w W) k (hk : k < P.cells.length) => (hP.mono hW).cells hk)
  have HPA := Lib.hid (fun W (hW : Ext w W) k (hk : k < P.cells.length) => (hP.affs k hk).mono hW)
  clear hsm hpt hP
  go_enter Tryz.func12, Tryz.ntmps12
  go_wp2_with fail
  have hxD : Ext W2 (W2.alloc (.cells #[.string P.name, .slice none 0 0] 39)) := (Ext.refl _).alloc _
  have hI0 : TwinI P.cells W2.heap.size P.name (W2.alloc (.cells #[.string P.name, .slice none 0 0] 39)) (.slice none 0 0) 0 (fun _ => (none, 0)) := ⟨heap_alloc_new _ _, World.ownsRow_nil _ _ _ _, fun j h => absurd h (by omega)⟩
  have HI0 := Lib.hid hI0
  have HXD := Lib.hid hxD
  clear hW2 b0 b1 bl r0 r1 rf0 rf1 rl hI0 hxD
  go_loopw [4] (fun i wr => ∃ (k : Nat) (v : Value) (g' : Nat → Option Addr × Nat), k ≤ P.cells.length ∧ i = .int .i64 k ∧ Ext W2 wr ∧ Hid (TwinI P.cells W2.heap.size P.name wr v k g')) (fun i _ => P.cells.length - (intOf i).toNat)
  case atStart => exact ⟨0, _, _, Nat.zero_le _, rfl, HXD.out, HI0⟩
  case round =>
    obtain ⟨k, v, g', hk, rfl, hx, HI⟩ := hrel
    obtain ⟨vp, vc, rfl⟩ := ownsRow_slice HI.out.2.1
    have hwr := HX.out.trans hx
    obtain ⟨b0, b1, bl, r0, r1, rf0, rf1, rl⟩ := HB.out _ hx
    have hDl := (Array.getElem?_eq_some_iff.1 HI.out.1).1
    by_cases hlt : k < P.cells.length
    · obtain ⟨b, off, e0, hbw, k0, k1⟩ := HPC.out _ hwr k hlt
      have HXA := Lib.hid (HPA.out wr hwr k hlt)
      have hm60 := HSM.out k hlt
      have hsl := parList_succ P.cells g' k
      obtain ⟨c, hc⟩ : ∃ c, cx P.cells k = c := ⟨_, rfl⟩
      obtain ⟨tg, xs⟩ := c
      obtain ⟨gk, hgk⟩ : ∃ gk, g k = gk := ⟨_, rfl⟩
      obtain ⟨xp, xc⟩ := gk
      rw [hc] at k0 k1 hm60 hsl HXA
      rw [hgk] at k1 HXA
      dsimp only at k0 k1 hm60 hsl HXA
      have HSL := Lib.hid hsl
      have HC := Lib.hid hc
      subst e0
      clear hc hgk hsl
      have ha : Ext wr (wr.alloc (.cells #[.int .u64 (tg : Int), .slice none 0 0] 54)) := (Ext.refl _).alloc _
      have hpa := (HB.out _ (hx.trans ha)).2.1
      have hka := (ha.facts.1 _ _ hbw).trans k1
      have hca := (Ext.refl (wr.alloc (.cells #[.int .u64 (tg : Int), .slice none 0 0] 54))).cell0 1
      simp only [List.getElem?_toArray, List.getElem?_cons_zero, List.getElem?_cons_succ] at hca
      have hvl := HI.out.2.1.lt
      have HVC := Lib.hid (show (Value.slice vp k vc).ownBlock ≠ some wr.heap.size from fun e => by have := (hvl _ e).2; omega)
      have HRC := Lib.hid (show ∀ j, j < k → ∀ b off, (g' j).1 = some ⟨b, off, none⟩ → b ≠ wr.heap.size from fun j hj b off e => by have := ((HI.out.2.2 j hj).2 b off e).2.1; omega)
      have HVD := Lib.hid (show (Value.slice vp k vc).ownBlock ≠ some W2.heap.size from fun e => by have := (hvl _ e).1; omega)
      clear hvl
      go_wp2_with fail
      (refine wp_region_ext_tail 8 (by kernel_rfl) (by kernel_rfl) ?_; intro ι hι g hg; simp only [List.take_succ_cons, List.take_zero, List.drop_succ_cons, List.drop_zero]; have q_hpa := hg.cell hpa; have q_hka := hg.cell hka; have q_hca := hg.cell hca; clear hpa hka hca; (repeat (go_big_quiet_step (fail))); refine wpQuiet_nil ?_; rintro w5 ⟨i2, rfl⟩; have hq5 := hg.ext i2; generalize g i2 = w5 at hq5 ⊢; clear q_hpa q_hka q_hca i2 hg g hι ι)
      have HN5 := Lib.hid (World.ownsRow_nil w5 w5.heap.size 28 4)
      have HS5 := Lib.hid (affs_src (HXA.out.mono (ha.trans hq5)))
      have HM := Lib.hid (fun W (hW : Ext wr W) => (⟨(hW.block _ hDl).trans HI.out.1, Nat.lt_of_lt_of_le hDl hW.le⟩ : W.heap[W2.heap.size]? = some (.cells #[.string P.name, .slice vp k vc] 39 (0, 0)) ∧ W2.heap.size < W.heap.size))
      go_wp2_with (first
        | (at_builtin; refine wpList_append_any _ rfl _ _ 52 rfl w5.heap.size 28 i0 (.agg #[.int .u8 0, .string ⟨#[]⟩, .string ⟨#[]⟩, .int .i64 0]) 4 48 Tryz.underlying52 hi hz0 hz1 hz2 rfl (by decide) _ 0 [] rfl HN5.out xp xs.length xc (affList xs) rfl (affList_len xs) HS5.out (affList_one xs) (by unfold maxLen; omega) (by omega) (Nat.le_refl _) ?_; intro v6 w6 hown6 hgrow6; rw [Nat.zero_add, List.nil_append] at hown6; obtain ⟨p6, c6, rfl⟩ := ownsRow_slice hown6; have hx6 : Ext (wr.alloc (.cells #[.int .u64 (tg : Int), .slice none 0 0] 54)) w6 := Ext.append hq5 HN5.out hgrow6 hq5.le; have z0 := hx6.cell0 0; have z1 := hx6.cell0 1; have zf0 := hx6.froz0 0; have zf1 := hx6.froz0 1; have zl := hx6.lt0; simp only [List.getElem?_toArray, List.getElem?_cons_zero, List.getElem?_cons_succ] at z0 z1; have hw6 := ha.trans hx6; obtain ⟨y0, y1⟩ := HM.out _ hw6; have y2 := cell_of9 y0 (j := 0) (v := .string P.name) rfl; have y3 := cell_of9 y0 (j := 1) (v := .slice vp k vc) rfl; have y4 := four_froz9 y0 0; have y5 := four_froz9 y0 1; clear y0; have HI8 := Lib.hid (twin_ext (twin_box (o := 1) (twin_ext HI.out hw6) (C := wr.heap.size) (by omega) HVC.out HRC.out (.slice p6 xs.length c6)) ((Ext.refl _).alloc (.cells #[.int .u64 (tg : Int), .slice p6 xs.length c6] 54))); have HT8 := Lib.hid (two_cells (w6.setCell ⟨wr.heap.size, 1, none⟩ (.slice p6 xs.length c6)) (.int .u64 (tg : Int)) (.slice p6 xs.length c6) 54); rw [World.size_setCell] at HT8; have HO6 := Lib.hid (own_affs hown6 HXA.out.wf HXA.out.big); clear hown6 hgrow6)
        | (at_builtin; refine wpList_append_lies _ rfl _ _ 37 rfl (W2.heap.size + 1) 54 j0 (.agg #[.int .u64 0, .slice none 0 0]) 2 32 Tryz.underlying37 hj hy0 hy1 hy2 rfl (by decide) (.slice vp k vc) k (parList P.cells g' k) rfl HI8.out.2.1 ⟨w6.heap.size, 0, none⟩ 1 1 [.int .u64 (tg : Int), .slice p6 xs.length c6] rfl rfl HT8.out (by simp [Value.oneCell']) (by decide) (by unfold maxLen; omega) (by omega) (by simp; omega) _ rfl ?_; intro g9 c9 w9 hown9 hgrow9 hat9 hlt9; have hm9 := HI8.out.1; have hd9 := (hgrow9.block W2.heap.size (Array.getElem?_eq_some_iff.1 hm9).1 (fun e => HVD.out e.symm)).trans hm9; have x2 := cell_of9 hd9 (j := 0) (v := .string P.name) rfl; have x3 := cell_of9 hd9 (j := 1) (v := .slice vp k vc) rfl; have x4 := four_froz9 hd9 0; have x5 := four_froz9 hd9 1; have x6 := (Array.getElem?_eq_some_iff.1 hd9).1; clear hm9 hd9))
      have hb6 := HO6.out.2
      have hsz6 := hx6.le
      rw [size_alloc] at hsz6
      have hsz5 := hq5.le
      rw [size_alloc] at hsz5
      have hfin := twin_more HI8.out (x := (p6, c6)) (W' := w9) (g4 := g9) (cap := c9)
        (by rw [HC.out]; exact (affs_set_ne HO6.out.1 (a := ⟨wr.heap.size, 1, none⟩) (fun b off e => by have := (hb6 b off e).1; show b ≠ wr.heap.size; omega) _).mono ((Ext.refl _).alloc _))
        (fun b off e => ⟨by have := (hb6 b off e).1; omega, by have := (hb6 b off e).2; rw [size_alloc, World.size_setCell]; omega, fun h => by
          have h1 := (hb6 b off e).1
          have h2 := (HI.out.2.1.lt b h.symm).2
          omega⟩)
        hgrow9 (by rw [HSL.out]; exact hown9) hat9 HVD.out
      have HFIN := Lib.hid hfin
      clear hfin
      go_wp2_with fail
      refine ⟨⟨k + 1, _, _, by omega, by go_num, ?_, HFIN⟩, by simp [intOf]; omega⟩
      have e1 : Ext W2 ((w6.setCell ⟨wr.heap.size, 1, none⟩ (.slice p6 xs.length c6)).alloc (.cells #[.int .u64 (tg : Int), .slice p6 xs.length c6] 54)) := ((hx.trans hw6).setCell (p := ⟨wr.heap.size, 1, none⟩) hx.le _).alloc _
      exact (Ext.append e1 HI8.out.2.1 hgrow9 (Nat.le_succ _)).setCell (p := ⟨W2.heap.size, 1, none⟩) (Nat.le_refl _) _
    · have e : k = P.cells.length := by omega
      subst e
      have hd9 := HI.out.1
      have x2 := cell_of9 hd9 (j := 0) (v := .string P.name) rfl
      have x3 := cell_of9 hd9 (j := 1) (v := .slice vp P.cells.length vc) rfl
      have hrb := HRB.out _ hx
      have hb2 := set_two (v0 := .string P.name) (v1 := .slice vp P.cells.length vc) hrb
      have HB2 := Lib.hid hb2
      have hsz9 := HSZ.out
      have h1 := HI.out.2.1.lt
      have hno : (Value.slice vp P.cells.length vc).ownBlock ≠ some (w.heap.size + 1) := fun e => by have := (h1 _ e).1; omega
      have hrr : ∀ j, j < P.cells.length → ∀ b off, (g' j).1 = some ⟨b, off, none⟩ → b ≠ w.heap.size + 1 := fun j hj b off e => by have := ((HI.out.2.2 j hj).2 b off e).1; omega
      have HF := Lib.hid (twin_box (o := 1) (twin_box (o := 0) HI.out (C := w.heap.size + 1) (by omega) hno hrr (.string P.name)) (C := w.heap.size + 1) (by omega) hno hrr (.slice vp P.cells.length vc))
      clear hd9 hrb hb2 h1 hno hrr hsz9
      go_wp2_with fail
      refine bodyPost_ret (results_cell_row rfl _ _ (w.heap.size + 1) 39 #[.string P.name, .slice vp P.cells.length vc] (0, 0) _ rfl HB2.out Tryz.underlying39 rfl (by kernel_rfl)) rfl ?_
      obtain ⟨p, c, he, hca⟩ := twin_at HF.out HPT.out hpb
      cases he
      refine ⟨⟨_, _, _, rfl, hca⟩, ?_⟩
      exact (hwr.setCell (p := ⟨w.heap.size + 1, 0, none⟩) (by simp) _).setCell (p := ⟨w.heap.size + 1, 1, none⟩) (by simp) _

set_option maxRecDepth 100000 in
set_option maxHeartbeats 4000000 in
theorem Same17_any (pp qp : Option Addr) (pc qc : Nat) (P : Para) (g g2 : Nat → Option Addr × Nat) (w : World) (hP : CellsAt w pp P.cells g) (hQ : CellsAt w qp P.cells g2) :
    Calls Tryz.prog 22 #[.agg #[.string P.name, .slice pp P.cells.length pc], .agg #[.string P.name, .slice qp P.cells.length qc]] w fun e w' => e = .returned (.bool true) ∧ Ext w w' := by
  have hpb := hP.big
  have hx0 : Ext w ((w.alloc (.cells #[.string P.name, .slice pp P.cells.length pc] 39)).alloc (.cells #[.string P.name, .slice qp P.cells.length qc] 39)) := ((Ext.refl _).alloc _).alloc _
  obtain ⟨W2, hW2⟩ : ∃ W2, (w.alloc (.cells #[.string P.name, .slice pp P.cells.length pc] 39)).alloc (.cells #[.string P.name, .slice qp P.cells.length qc] 39) = W2 := ⟨_, rfl⟩
  have HB := Lib.hid (fun W (hW : Ext W2 W) => (by
    rw [← hW2] at hW
    have h1 : Ext (w.alloc (.cells #[.string P.name, .slice pp P.cells.length pc] 39)) W := ((Ext.refl _).alloc _).trans hW
    have c2 := hW.cell0 0
    have c3 := hW.cell0 1
    have l2 := hW.lt0
    rw [size_alloc] at c2 c3 l2
    exact ⟨h1.cell0 0, h1.cell0 1, h1.lt0, c2, c3, l2⟩ : W.cell? ⟨w.heap.size, 0, none⟩ = some (.string P.name) ∧ W.cell? ⟨w.heap.size, 1, none⟩ = some (.slice pp P.cells.length pc) ∧ w.heap.size < W.heap.size ∧ W.cell? ⟨w.heap.size + 1, 0, none⟩ = some (.string P.name) ∧ W.cell? ⟨w.heap.size + 1, 1, none⟩ = some (.slice qp P.cells.length qc) ∧ w.heap.size + 1 < W.heap.size))
  rw [hW2] at hx0
  have HX := Lib.hid hx0
  have HPC := Lib.hid (fun W (hW : Ext w W) k (hk : k < P.cells.length) => (hP.mono hW).cells hk)
  have HQC := Lib.hid (fun W (hW : Ext w W) k (hk : k < P.cells.length) => (hQ.mono hW).cells hk)
  have HPA := Lib.hid (fun W (hW : Ext w W) k (hk : k < P.cells.length) => (hP.affs k hk).mono hW)
  have HQA := Lib.hid (fun W (hW : Ext w W) k (hk : k < P.cells.length) => (hQ.affs k hk).mono hW)
  have gN : (P.name.toList != P.name.toList) = false := by simp
  obtain ⟨b0, b1, bl, c0, c1, cl⟩ := HB.out _ (Ext.refl _)
  clear hx0 hP hQ
  go_enter Tryz.func22, Tryz.ntmps22
  go_wp2_with fail
  go_loopw [5] (fun i wr => ∃ k : Nat, k ≤ P.cells.length ∧ i = .int .i64 k ∧ Ext W2 wr) (fun i _ => P.cells.length - (intOf i).toNat)
  case atStart => exact ⟨0, Nat.zero_le _, rfl, Ext.refl _⟩
  case round =>
    clear b0 b1 bl c0 c1 cl hW2
    obtain ⟨k, hk, rfl, hx⟩ := hrel
    have hwr := HX.out.trans hx
    obtain ⟨b0, b1, bl, c0, c1, cl⟩ := HB.out _ hx
    by_cases hlt : k < P.cells.length
    · obtain ⟨b, off, e0, hbw, k0, k1⟩ := HPC.out _ hwr k hlt
      obtain ⟨d, doff, e1, hdw, q0, q1⟩ := HQC.out _ hwr k hlt
      have HXA := Lib.hid (fun W (hW : Ext w W) => HPA.out W hW k hlt)
      have HYA := Lib.hid (fun W (hW : Ext w W) => HQA.out W hW k hlt)
      obtain ⟨c, hc⟩ : ∃ c, cx P.cells k = c := ⟨_, rfl⟩
      obtain ⟨tg, xs⟩ := c
      obtain ⟨gk, hgk⟩ : ∃ gk, g k = gk := ⟨_, rfl⟩
      obtain ⟨xp, xc⟩ := gk
      obtain ⟨hk2, hgk2⟩ : ∃ gk, g2 k = gk := ⟨_, rfl⟩
      obtain ⟨yp, yc⟩ := hk2
      rw [hc] at k0 k1 q0 q1 HXA HYA
      rw [hgk] at k1 HXA
      rw [hgk2] at q1 HYA
      dsimp only at k0 k1 q0 q1 HXA HYA
      have hxb := (HXA.out _ hwr).big
      subst e0
      subst e1
      clear hc hgk hgk2
      have ha : Ext wr (wr.alloc (.cells #[.int .u64 (tg : Int), .slice xp xs.length xc] 54)) := (Ext.refl _).alloc _
      obtain ⟨Wa, hWa⟩ : ∃ Wa, wr.alloc (.cells #[.int .u64 (tg : Int), .slice xp xs.length xc] 54) = Wa := ⟨_, rfl⟩
      have hza : Wa.heap.size = wr.heap.size + 1 := by rw [← hWa, size_alloc]
      have hab : Ext Wa (Wa.alloc (.cells #[.int .u64 (tg : Int), .slice yp xs.length yc] 54)) := (Ext.refl _).alloc _
      obtain ⟨Wb, hWb⟩ : ∃ Wb, Wa.alloc (.cells #[.int .u64 (tg : Int), .slice yp xs.length yc] 54) = Wb := ⟨_, rfl⟩
      rw [hWa] at ha
      rw [hWb] at hab
      have HCB := Lib.hid (fun W (hW : Ext Wb W) => (by
        have h1 := hab.trans hW
        rw [← hWa] at h1
        have h2 := hW
        rw [← hWb] at h2
        have c2 := h2.cell0 0
        have c3 := h2.cell0 1
        have l2 := h2.lt0
        rw [hza] at c2 c3 l2
        exact ⟨h1.cell0 0, h1.cell0 1, h1.lt0, c2, c3, l2⟩ : W.cell? ⟨wr.heap.size, 0, none⟩ = some (.int .u64 (tg : Int)) ∧ W.cell? ⟨wr.heap.size, 1, none⟩ = some (.slice xp xs.length xc) ∧ wr.heap.size < W.heap.size ∧ W.cell? ⟨wr.heap.size + 1, 0, none⟩ = some (.int .u64 (tg : Int)) ∧ W.cell? ⟨wr.heap.size + 1, 1, none⟩ = some (.slice yp xs.length yc) ∧ wr.heap.size + 1 < W.heap.size))
      have hrb := ha.trans hab
      have hWbe : (wr.alloc (.cells #[.int .u64 (tg : Int), .slice xp xs.length xc] 54)).alloc (.cells #[.int .u64 (tg : Int), .slice yp xs.length yc] 54) = Wb := by rw [hWa, hWb]
      have HRB := Lib.hid hrb
      obtain ⟨m0, m1, ml, n0, n1, nl⟩ := HCB.out _ (Ext.refl _)
      clear hWa hWb hza ha hab hrb
      go_wp2_with fail
      go_loopw [8] (fun i wy => ∃ j : Nat, j ≤ xs.length ∧ i = .int .i64 j ∧ Ext Wb wy) (fun i _ => xs.length - (intOf i).toNat)
      case atStart => exact ⟨0, Nat.zero_le _, rfl, by first | exact Ext.refl _ | (rw [hWbe]; exact Ext.refl _)⟩
      case round =>
        clear m0 m1 ml n0 n1 nl hWbe
        obtain ⟨j, hj, rfl, hy⟩ := hrel
        obtain ⟨m0, m1, ml, n0, n1, nl⟩ := HCB.out _ hy
        by_cases hlj : j < xs.length
        · have hwy := hwr.trans (HRB.out.trans hy)
          obtain ⟨b2, off2, e2, _, x0, x1, x2, x3⟩ := (HXA.out _ hwy).cells hlj
          obtain ⟨d2, doff2, e3, _, y0, y1, y2, y3⟩ := (HYA.out _ hwy).cells hlj
          obtain ⟨x, hx9⟩ : ∃ x, ax xs j = x := ⟨_, rfl⟩
          rw [hx9] at x0 x1 x2 x3 y0 y1 y2 y3
          subst e2
          subst e3
          clear hx9
          go_wp2_with fail
          (refine wp_region_ext (by kernel_rfl) (by kernel_rfl) ?_; intro ι hι g hg; have q_m1 := hg.cell m1; have q_n1 := hg.cell n1; have q_x0 := hg.cell x0; have q_x1 := hg.cell x1; have q_x2 := hg.cell x2; have q_x3 := hg.cell x3; have q_y0 := hg.cell y0; have q_y1 := hg.cell y1; have q_y2 := hg.cell y2; have q_y3 := hg.cell y3; clear m1 n1 x0 x1 x2 x3 y0 y1 y2 y3; (repeat (go_big_quiet_step (fail))); refine wpQuiet_nil ?_; rintro w5 ⟨i2, rfl⟩; have hq5 := hg.ext i2; generalize g i2 = w5 at hq5 ⊢; clear q_m1 q_n1 q_x0 q_x1 q_x2 q_x3 q_y0 q_y1 q_y2 q_y3 i2 hg g hι ι)
          go_wp2_with fail
          exact ⟨⟨j + 1, by omega, by go_num, hy.trans hq5⟩, by simp [intOf]; omega⟩
        · go_wp2_with fail
          exact ⟨⟨k + 1, by omega, by go_num, hx.trans (HRB.out.trans hy)⟩, by simp [intOf]; omega⟩
    · go_wp2_with fail
      go_ret
      exact ⟨rfl, hwr⟩
end Go.Proofs.YtkmfhcjdaglikaaGreatDoor

namespace Go.Proofs.YtkmfhcjdaglikaaGreatDoor
open Go.RowKit Go.Cg Go.Shelf Go.Maps

def muchB (P : Para) (s : ByteArray) : Bool := decide (2000 < s.size) || decide (600 < P.cells.length) || P.cells.any fun c => decide (60 < c.affs.length)
theorem muchB_1 {P : Para} {s : ByteArray} (h : 2000 < s.size) : muchB P s = true := by unfold muchB; rw [decide_eq_true h]; rfl
theorem muchB_2 {P : Para} {s : ByteArray} (h : 600 < P.cells.length) : muchB P s = true := by unfold muchB; rw [decide_eq_true h]; simp
theorem muchB_3 {P : Para} {s : ByteArray} {k : Nat} (hk : k < P.cells.length) (h : 60 < (cx P.cells k).affs.length) : muchB P s = true := by
  unfold muchB
  rw [Bool.or_eq_true]
  right
  rw [List.any_eq_true]
  refine ⟨_, List.getElem_mem hk, ?_⟩
  rw [← cx_eq hk]; exact decide_eq_true h
theorem muchB_no {P : Para} {s : ByteArray} (h1 : ¬ 2000 < s.size) (h2 : ¬ 600 < P.cells.length) (h : ∀ k, k < P.cells.length → ¬ 60 < (cx P.cells k).affs.length) : muchB P s = false := by
  unfold muchB
  rw [decide_eq_false h1, decide_eq_false h2, Bool.false_or, Bool.false_or, Bool.eq_false_iff]
  intro h3
  rw [List.any_eq_true] at h3
  obtain ⟨c, hc, hd⟩ := h3
  obtain ⟨k, hk, e⟩ := List.getElem_of_mem hc
  have := h k hk
  rw [cx_eq hk, e] at this
  exact this (of_decide_eq_true hd)
theorem upto9 {q : Nat → Prop} {k : Nat} (h : ∀ j, j < k → q j) (hk : q k) : ∀ j, j < k + 1 → q j := fun j hj => by
  by_cases e : j = k
  · subst e; exact hk
  · exact h j (by omega)

set_option maxRecDepth 100000 in
set_option maxHeartbeats 2000000 in
theorem much_any (pp : Option Addr) (pc : Nat) (P : Para) (g : Nat → Option Addr × Nat) (s : ByteArray) (hs : s.size ≤ 140737488351232) (w : World) (hP : CellsAt w pp P.cells g) :
    Calls Tryz.prog 11 #[.agg #[.string P.name, .slice pp P.cells.length pc], .string s] w fun e w' => e = .returned (.bool (muchB P s)) ∧ Ext w w' := by
  have hpb := hP.big
  by_cases h1 : 2000 < s.size
  · rw [muchB_1 h1]
    go_enter Tryz.func11, Tryz.ntmps11
    go_wp2_with fail
    go_ret
    exact ⟨rfl, (Ext.refl _).alloc _⟩
  by_cases h2 : 600 < P.cells.length
  · rw [muchB_2 h2]
    go_enter Tryz.func11, Tryz.ntmps11
    go_wp2_with fail
    go_ret
    exact ⟨rfl, (Ext.refl _).alloc _⟩
  have HY := Lib.hid (fun k (hk : k < P.cells.length) (h : 60 < (cx P.cells k).affs.length) => muchB_3 (s := s) hk h)
  have HN := Lib.hid (muchB_no (P := P) (s := s) h1 h2)
  obtain ⟨B, hB⟩ : ∃ B, muchB P s = B := ⟨_, rfl⟩
  rw [hB] at HY HN ⊢
  clear hB
  go_enter Tryz.func11, Tryz.ntmps11
  go_wp2_with fail
  go_loopw [5] (fun i wr => ∃ k : Nat, k ≤ P.cells.length ∧ i = .int .i64 k ∧ Ext (w.alloc (.cells #[.string P.name, .slice pp P.cells.length pc] 39)) wr ∧ Hid (∀ j, j < k → ¬ 60 < (cx P.cells j).affs.length)) (fun i _ => P.cells.length - (intOf i).toNat)
  case atStart => exact ⟨0, Nat.zero_le _, rfl, Ext.refl _, Lib.hid fun j hj => absurd hj (by omega)⟩
  case round =>
    obtain ⟨k, hk, rfl, hx, HJ⟩ := hrel
    have hx0 : Ext w wr := ((Ext.refl w).alloc _).trans hx
    have c0 := hx.cell0 0
    have c1 := hx.cell0 1
    have l0 := hx.lt0
    simp at c0 c1
    by_cases hlt : k < P.cells.length
    · obtain ⟨b, off, e0, hbw, k0, k1⟩ := (hP.mono hx0).cells hlt
      have hab := (hP.affs k hlt).big
      have HJ2 := Lib.hid (fun h => upto9 (q := fun j => ¬ 60 < (cx P.cells j).affs.length) HJ.out (k := k) h)
      have HY2 := Lib.hid (HY.out k hlt)
      obtain ⟨xs, hxs⟩ : ∃ xs, g k = xs := ⟨_, rfl⟩
      obtain ⟨xp, xc⟩ := xs
      rw [hxs] at k1
      obtain ⟨m, hm⟩ : ∃ m, (cx P.cells k).affs.length = m := ⟨_, rfl⟩
      obtain ⟨tg, htg⟩ : ∃ tg, (cx P.cells k).tags = tg := ⟨_, rfl⟩
      rw [hm] at k1 hab HY2 HJ2
      rw [htg] at k0
      dsimp only at k1
      subst e0
      clear hxs hm htg
      by_cases h60 : 60 < m
      · have hBt := HY2.out h60
        subst hBt
        go_wp2_with fail
        go_ret
        exact ⟨rfl, hx0⟩
      · go_wp2_with fail
        exact ⟨⟨k + 1, by omega, by go_num, hx, Lib.hid (HJ2.out h60)⟩, by simp [intOf]; omega⟩
    · have e : k = P.cells.length := by omega
      subst e
      have hBf := HN.out HJ.out
      subst hBf
      go_wp2_with fail
      go_ret
      exact ⟨rfl, hx0⟩

set_option maxHeartbeats 1000000 in
theorem SameInts9_any (pa pb : Option Addr) (ca cb : Nat) (a b : List Nat) (ha : a.length ≤ 100000) (w : World) (h1 : Reads w pa a.length fun j => .int .i64 ((nth a j : Nat) : Int)) (h2 : Reads w pb b.length fun j => .int .i64 ((nth b j : Nat) : Int)) (hab : a = b) :
    Calls Tryz.prog 19 #[.slice pa a.length ca, .slice pb b.length cb] w fun e w' => e = .returned (.bool true) ∧ Ext w w' := by
  subst hab
  go_enter Tryz.func19, Tryz.ntmps19
  go_wp2_with fail
  go_loopw [5] (fun i wr => ∃ k : Nat, k ≤ a.length ∧ i = .int .i64 k ∧ Ext w wr) (fun i _ => a.length - (intOf i).toNat)
  case atStart => exact ⟨0, Nat.zero_le _, rfl, Ext.refl _⟩
  case round =>
    obtain ⟨k, hk, rfl, hx⟩ := hrel
    by_cases hlt : k < a.length
    · obtain ⟨b1, o1, rfl, hb1, k0⟩ := (h1.mono hx).cells_ hlt
      obtain ⟨b2, o2, rfl, hb2, k1⟩ := (h2.mono hx).cells_ hlt
      have c0 := k0 k hlt
      have d0 := k1 k hlt
      clear k0 k1
      go_wp2_with fail
      (refine wp_region_ext (by kernel_rfl) (by kernel_rfl) ?_; intro ι hι g hg; have q_c0 := hg.cell c0; have q_d0 := hg.cell d0; clear c0 d0; (repeat (go_big_quiet_step (fail))); refine wpQuiet_nil ?_; rintro w2 ⟨i2, rfl⟩; have hq := hg.ext i2; generalize g i2 = w2 at hq ⊢; clear q_c0 q_d0 i2 hg g hι ι)
      go_wp2_with fail
      exact ⟨⟨k + 1, by omega, by go_num, hx.trans hq⟩, by simp [intOf]; omega⟩
    · go_wp2_with fail
      go_ret
      exact ⟨rfl, hx⟩


theorem own_ne {w : World} {B : Nat} {e : TypeId} {size n : Nat} {p : Option Addr} {c : Nat} {xs : List Value} (h : w.ownsRow B e size (.slice p n c) n xs) {g : Nat} (hg : g < B) : ∀ b off, p = some ⟨b, off, none⟩ → b ≠ g := fun b off e => by
  subst e
  rcases h.2 with ⟨h1, _⟩ | ⟨g2, cap, cur, hv, hb2, _⟩
  · cases h1
  · simp only [Value.slice.injEq, Option.some.injEq, Addr.mk.injEq, true_and, and_true] at hv
    obtain ⟨⟨rfl, _⟩, _⟩ := hv
    omega
theorem own_reads9 {w : World} {B : Nat} {p : Option Addr} {c : Nat} {l : List Nat} (h : w.ownsRow B 3 1 (.slice p l.length c) l.length (intCells l)) : Reads w p l.length fun j => .int .i64 ((nth l j : Nat) : Int) := by
  have := ownsRow_reads h (f := fun j => .int .i64 ((nth l j : Nat) : Int)) (fun j hj => intCells_at (by omega))
  rwa [Nat.mul_one] at this

set_option maxRecDepth 100000 in
set_option maxHeartbeats 8000000 in
theorem paradigmCells_any (fp ap : Option Addr) (fc ac : Nat) (A : Alpha) (v : Nat) (hv : v < 4294967296) (pp : Option Addr) (pc : Nat) (P : Para) (g : Nat → Option Addr × Nat) (n : Int) (hn : -9223372036854775808 ≤ n ∧ n ≤ 9223372036854775807) (s : ByteArray) (hs : s.size ≤ 140737488351232) (t : Nat) (ht : t < 18446744073709551616) (w : World) (hA : AlphaAt w fp ap A) (hP : CellsAt w pp P.cells g) (hT : Tabs w)
    (hn9 : P.name.size ≤ 140737488351232) (hsm : ∀ k, k < P.cells.length → ∀ j, j < (cx P.cells k).affs.length → (ax (cx P.cells k).affs j).small) :
    Calls Tryz.prog 4 #[.agg #[.slice fp A.feats.length fc, .slice ap A.lets.length ac], .int .u32 v, .agg #[.string P.name, .slice pp P.cells.length pc], .int .i64 n, .string s, .int .u64 (t : Int)] w fun e w' => e = .returned (.bool true) ∧ Ext w w' := by
  have hx0 : Ext w (w.alloc (.cells #[.slice fp A.feats.length fc, .slice ap A.lets.length ac] 25)) := (Ext.refl _).alloc _
  obtain ⟨W1, hW1⟩ : ∃ W1, w.alloc (.cells #[.slice fp A.feats.length fc, .slice ap A.lets.length ac] 25) = W1 := ⟨_, rfl⟩
  have hx1 : Ext W1 (W1.alloc (.cells #[.string P.name, .slice pp P.cells.length pc] 39)) := (Ext.refl _).alloc _
  obtain ⟨W2, hW2⟩ : ∃ W2, W1.alloc (.cells #[.string P.name, .slice pp P.cells.length pc] 39) = W2 := ⟨_, rfl⟩
  rw [hW1] at hx0
  rw [hW2] at hx1
  have z1 : W1.heap.size = w.heap.size + 1 := by rw [← hW1, size_alloc]
  have HB := Lib.hid (fun W (hW : Ext W2 W) => (by
    have h := hx1.trans hW
    rw [← hW1] at h
    have h2 := hW
    rw [← hW2] at h2
    have c0 := h2.cell0 0
    have c1 := h2.cell0 1
    have l0 := h2.lt0
    rw [z1] at c0 c1 l0
    exact ⟨h.cell0 0, h.cell0 1, h.lt0, c0, c1, l0⟩ : W.cell? ⟨w.heap.size, 0, none⟩ = some (.slice fp A.feats.length fc) ∧ W.cell? ⟨w.heap.size, 1, none⟩ = some (.slice ap A.lets.length ac) ∧ w.heap.size < W.heap.size ∧ W.cell? ⟨w.heap.size + 1, 0, none⟩ = some (.string P.name) ∧ W.cell? ⟨w.heap.size + 1, 1, none⟩ = some (.slice pp P.cells.length pc) ∧ w.heap.size + 1 < W.heap.size))
  have hwW2 : Ext w W2 := hx0.trans hx1
  have HX := Lib.hid hwW2
  have HAL := Lib.hid (alive17_any W2 (hT.ext hwW2))
  have HMU := Lib.hid (fun W (hW : Ext w W) => much_any pp pc P g s hs W (hP.mono hW))
  have hW2e : (w.alloc (.cells #[.slice fp A.feats.length fc, .slice ap A.lets.length ac] 25)).alloc (.cells #[.string P.name, .slice pp P.cells.length pc] 39) = W2 := by rw [hW1, hW2]
  have hpb := hP.big
  obtain ⟨d0, d1, l0, c0, c1, l1⟩ := HB.out _ (Ext.refl _)
  clear hW1 hW2 hx0 hx1 z1 hwW2
  cases hmu : muchB P s
  case true =>
    rw [hmu] at HMU
    clear hmu
    go_enter Tryz.func4, Tryz.ntmps4
    go_wp2_with fail
    refine HAL.out.mono ?_
    rintro e w1 ⟨rfl, hy1⟩
    clear hW2e d0 d1 l0 c0 c1 l1
    obtain ⟨d0, d1, l0, c0, c1, l1⟩ := HB.out _ hy1
    go_wp2_with fail
    refine (HMU.out _ (HX.out.trans hy1)).mono ?_
    rintro e w2 ⟨rfl, hy2⟩
    go_wp2_with fail
    go_ret
    exact ⟨rfl, HX.out.trans (hy1.trans hy2)⟩
  case false =>
    rw [hmu] at HMU
    have h600 : P.cells.length ≤ 600 := by
      rcases Nat.lt_or_ge 600 P.cells.length with h | h
      · rw [muchB_2 h] at hmu; cases hmu
      · exact h
    have h60 : ∀ k, k < P.cells.length → (cx P.cells k).affs.length ≤ 60 := fun k hk => by
      rcases Nat.lt_or_ge 60 (cx P.cells k).affs.length with h | h
      · rw [muchB_3 hk h] at hmu; cases hmu
      · exact h
    clear hmu
    have HTW := Lib.hid (fun W (hW : Ext w W) => Twin17_any pp pc P g h60 h600 W (hP.mono hW))
    have HFO := Lib.hid (fun pq pd gq W (hW : Ext w W) (hq : CellsAt W pq P.cells gq) => form_any fp ap pq fc ac pd A v hv P gq n hn.1 hn.2 s hs hn9 hsm W (hA.mono hW) (hT.ext hW) hq)
    have HST := Lib.hid (fun pq pd gq W (hW : Ext w W) (hq : CellsAt W pq P.cells gq) => stems_any fp ap pq fc ac pd A v hv P gq n hn.1 hn.2 s hs hn9 hsm W (hA.mono hW) (hT.ext hW) hq)
    have HFI := Lib.hid (fun pq pd gq W (hq : CellsAt W pq P.cells gq) => find_any pq pd P gq t ht W hq)
    have HPC := Lib.hid (fun pq pd gq W (hW : Ext w W) (hq : CellsAt W pq P.cells gq) => pcheck_any fp ap pq fc ac pd A P gq hn9 hsm W (hA.mono hW) (hT.ext hW) hq)
    have HFR := Lib.hid (fun W (hW : Ext w W) => Form17_any fp ap pp fc ac pc A v hv P g n hn.1 hn.2 s hs hn9 hsm W (hA.mono hW) (hT.ext hW) (hP.mono hW))
    have HSR := Lib.hid (fun W (hW : Ext w W) => Stems17_any fp ap pp fc ac pc A v hv P g n hn.1 hn.2 s hs hn9 hsm W (hA.mono hW) (hT.ext hW) (hP.mono hW))
    have HIR := Lib.hid (fun W (hW : Ext w W) => Find17_any pp pc P g t ht W (hP.mono hW))
    have HCR := Lib.hid (fun W (hW : Ext w W) => Check17_any fp ap pp fc ac pc A P g hn9 W (hA.mono hW) (hT.ext hW) (hP.mono hW))
    have HSM := Lib.hid (fun pq pd gq W (hW : Ext w W) (hq : CellsAt W pq P.cells gq) => Same17_any pq pp pd pc P gq g W hq (hP.mono hW))
    have hlen : (stemS A v P n s).length ≤ 1 := by unfold stemS; split; exact optS_len _; simp
    have hfl := findTo_len P.cells t P.cells.length
    obtain ⟨FS, hFS⟩ : ∃ FS, formS A v P n s = FS := ⟨_, rfl⟩
    obtain ⟨FE, hFE⟩ : ∃ FE, formE A v P n s = FE := ⟨_, rfl⟩
    obtain ⟨T, hT9⟩ : ∃ T, stemS A v P n s = T := ⟨_, rfl⟩
    obtain ⟨CE, hCE⟩ : ∃ CE, cellE A v P n s = CE := ⟨_, rfl⟩
    obtain ⟨L, hL⟩ : ∃ L, findTo P.cells t P.cells.length = L := ⟨_, rfl⟩
    obtain ⟨PE, hPE⟩ : ∃ PE, parE A P = PE := ⟨_, rfl⟩
    rw [hFS, hFE] at HFO HFR
    rw [hT9, hCE] at HST HSR
    rw [hT9] at hlen
    rw [hL] at HFI HIR hfl
    rw [hPE] at HPC HCR
    have gF : (FS.toList == FS.toList) = true := by simp
    have gE1 : (FE == FE) = true := by simp
    have gE2 : (CE == CE) = true := by simp
    have gE3 : (PE == PE) = true := by simp
    have hl600 : L.length ≤ 600 := by omega
    clear hFS hFE hT9 hCE hL hPE hA hP hT hsm h60 hn hfl
    go_enter Tryz.func4, Tryz.ntmps4
    go_wp2_with fail
    refine HAL.out.mono ?_
    rintro e w1 ⟨rfl, hy1⟩
    clear hW2e d0 d1 l0 c0 c1 l1
    obtain ⟨d0, d1, l0, c0, c1, l1⟩ := HB.out _ hy1
    go_wp2_with fail
    refine (HMU.out _ (HX.out.trans hy1)).mono ?_
    rintro e w2 ⟨rfl, hy2⟩
    have hz2 := hy1.trans hy2
    obtain ⟨d0, d1, l0, c0, c1, l1⟩ := HB.out _ hz2
    go_wp2_with fail
    refine (HTW.out _ (HX.out.trans hz2)).mono ?_
    rintro e w3 ⟨⟨qp, qc, gq, rfl, hQ⟩, hy3⟩
    have hz3 := hz2.trans hy3
    have hqa : Ext w3 (w3.alloc (.cells #[.string P.name, .slice qp P.cells.length qc] 39)) := (Ext.refl _).alloc _
    have HQB := Lib.hid (fun W (hW : Ext (w3.alloc (.cells #[.string P.name, .slice qp P.cells.length qc] 39)) W) => (⟨hW.cell0 0, hW.cell0 1, hW.lt0⟩ : W.cell? ⟨w3.heap.size, 0, none⟩ = some (.string P.name) ∧ W.cell? ⟨w3.heap.size, 1, none⟩ = some (.slice qp P.cells.length qc) ∧ w3.heap.size < W.heap.size))
    have HQ := Lib.hid (fun W (hW : Ext (w3.alloc (.cells #[.string P.name, .slice qp P.cells.length qc] 39)) W) => hQ.mono (hqa.trans hW))
    have hz4 := hz3.trans hqa
    clear hQ
    obtain ⟨d0, d1, l0, c0, c1, l1⟩ := HB.out _ hz4
    go_wp2_with fail
    refine (HFO.out _ _ _ _ (HX.out.trans hz4) (HQ.out _ (Ext.refl _))).mono ?_
    rintro e w5 ⟨rfl, hy5⟩
    have hz5 := hz4.trans hy5
    obtain ⟨d0, d1, l0, c0, c1, l1⟩ := HB.out _ hz5
    obtain ⟨m0, m1, ml⟩ := HQB.out _ hy5
    go_wp2_with fail
    refine (HST.out _ _ _ _ (HX.out.trans hz5) (HQ.out _ hy5)).mono ?_
    rintro e w6 ⟨⟨rp, rc, rfl, hr⟩, hy6⟩
    have hz6 := hz5.trans hy6
    have hq6 := hy5.trans hy6
    have HR := Lib.hid (opt_reads hlen hr)
    clear hr
    obtain ⟨d0, d1, l0, c0, c1, l1⟩ := HB.out _ hz6
    obtain ⟨m0, m1, ml⟩ := HQB.out _ hq6
    go_wp2_with fail
    refine (HFI.out _ _ _ _ (HQ.out _ hq6)).mono ?_
    rintro e w7 ⟨np, nc, rfl, hn7, hy7⟩
    have hz7 := hz6.trans hy7
    have hq7 := hq6.trans hy7
    have HN7 := Lib.hid hn7
    clear hn7
    obtain ⟨d0, d1, l0, c0, c1, l1⟩ := HB.out _ hz7
    obtain ⟨m0, m1, ml⟩ := HQB.out _ hq7
    go_wp2_with fail
    refine (HFI.out _ _ _ _ (HQ.out _ hq7)).mono ?_
    rintro e w8 ⟨mp, mc, rfl, hn8, hy8⟩
    have hz8 := hz7.trans hy8
    have hq8 := hq7.trans hy8
    have HN8 := Lib.hid hn8
    clear hn8
    obtain ⟨d0, d1, l0, c0, c1, l1⟩ := HB.out _ hz8
    obtain ⟨m0, m1, ml⟩ := HQB.out _ hq8
    go_wp2_with fail
    refine (HFR.out _ (HX.out.trans hz8)).mono ?_
    rintro e w9 ⟨rfl, hy9⟩
    have hz9 := hz8.trans hy9
    obtain ⟨d0, d1, l0, c0, c1, l1⟩ := HB.out _ hz9
    go_wp2_with fail
    refine (HSR.out _ (HX.out.trans hz9)).mono ?_
    rintro e w10 ⟨⟨sp, sc, rfl, hr⟩, hy10⟩
    have hz10 := hz9.trans hy10
    have HS := Lib.hid (opt_reads hlen hr)
    clear hr
    obtain ⟨d0, d1, l0, c0, c1, l1⟩ := HB.out _ hz10
    go_wp2_with fail
    refine (HIR.out _ (HX.out.trans hz10)).mono ?_
    rintro e w11 ⟨kp, kc, rfl, hn11, hy11⟩
    have hz11 := hz10.trans hy11
    have h811 := (hy9.trans hy10).trans hy11
    have hq11 := hq8.trans h811
    have HN11 := Lib.hid hn11
    clear hn11
    obtain ⟨d0, d1, l0, c0, c1, l1⟩ := HB.out _ hz11
    obtain ⟨m0, m1, ml⟩ := HQB.out _ hq11
    have HC1 := Lib.hid (fun W (hW : Ext w11 W) => SameWords9_any rp sp rc sc T (by omega) W (HR.out.mono (((hy7.trans hy8).trans h811).trans hW)) (HS.out.mono (hy11.trans hW)))
    have HC2 := Lib.hid (fun W (hW : Ext w11 W) => SameInts9_any np kp nc kc L L (by omega) W ((own_reads9 HN7.out).mono ((hy8.trans h811).trans hW)) ((own_reads9 HN11.out).mono hW) rfl)
    have HC3 := Lib.hid (fun W (hW : Ext w11 W) => HPC.out qp qc gq W (HX.out.trans (hz11.trans hW)) (HQ.out _ (hq11.trans hW)))
    have HC4 := Lib.hid (fun W (hW : Ext w11 W) => HCR.out W (HX.out.trans (hz11.trans hW)))
    go_wp2_with fail
    (refine wp_region_ext (by kernel_rfl) (by kernel_rfl) ?_; intro ι hι g hg; have q_d0 := hg.cell d0; have q_d1 := hg.cell d1; have q_c0 := hg.cell c0; have q_c1 := hg.cell c1; have q_m0 := hg.cell m0; have q_m1 := hg.cell m1; clear d0 d1 c0 c1 m0 m1; (repeat (go_big_quiet_step ((first | (go_at_call 10; exact hg.call (HC1.out _ (hg.ext _))) | (go_at_call 19; exact hg.call (HC2.out _ (hg.ext _))) | (go_at_call 20; exact hg.call (HC3.out _ (hg.ext _))) | (go_at_call 21; exact hg.call (HC4.out _ (hg.ext _))))))); refine wpQuiet_nil ?_; rintro w12 ⟨i2, rfl⟩; have hq12 := hg.ext i2; generalize g i2 = w12 at hq12 ⊢; clear q_d0 q_d1 q_c0 q_c1 q_m0 q_m1 i2 hg g hι ι)
    have hO := ownsRow_ext HN7.out ((hy8.trans h811).trans hq12)
    have hM := (own_reads9 HN8.out).mono (h811.trans hq12)
    have hK := (own_reads9 HN11.out).mono hq12
    have HO := Lib.hid hO
    have HM := Lib.hid hM
    have HK := Lib.hid hK
    have HLT := Lib.hid (fun gb (h : np = some ⟨gb, 0, none⟩) => (⟨(HN7.out.lt gb (by rw [h]; rfl)).1, (HN7.out.lt gb (by rw [h]; rfl)).2⟩ : w6.heap.size ≤ gb ∧ gb < w7.heap.size))
    have HNM := Lib.hid (fun gb (h : gb < w7.heap.size) => own_ne HN8.out h)
    have HNK := Lib.hid (fun gb (h : gb < w7.heap.size) => own_ne HN11.out (Nat.lt_of_lt_of_le h ((hy8.trans (hy9.trans hy10)).le)))
    have h6x : Ext w6 w12 := ((hy7.trans hy8).trans h811).trans hq12
    clear hO hM hK d0 d1 l0 c0 c1 l1 m0 m1 ml
    go_wp2_with fail
    go_loopw [27] (fun i wr => ∃ (k : Nat) (xs : List Value), k ≤ L.length ∧ i = .int .i64 k ∧ Ext w6 wr ∧ Hid (wr.ownsRow w6.heap.size 3 1 (.slice np L.length nc) L.length xs) ∧ Hid (Reads wr mp L.length fun j => .int .i64 ((nth L j : Nat) : Int)) ∧ Hid (Reads wr kp L.length fun j => .int .i64 ((nth L j : Nat) : Int))) (fun i _ => L.length - (intOf i).toNat)
    case atStart => exact ⟨0, _, Nat.zero_le _, rfl, h6x, HO, HM, HK⟩
    case round =>
      obtain ⟨k, xs, hk, rfl, hx, HOx, HMx, HKx⟩ := hrel
      by_cases hlt : k < L.length
      · obtain ⟨gb, e0, hcap, hgB⟩ := own_some HOx.out (by omega)
        subst e0
        obtain ⟨hg1, hg2⟩ := HLT.out gb rfl
        have hca := HOx.out.cellAt k (by omega)
        have hfr := HOx.out.frozenAt k
        have hxl : k < xs.length := by rw [HOx.out.1]; omega
        rw [List.getElem?_eq_getElem hxl] at hca
        obtain ⟨u, hu⟩ : ∃ u, xs[k] = u := ⟨_, rfl⟩
        rw [hu] at hca
        have hlg := (HOx.out.lt gb rfl).2
        have HN1 := Lib.hid (HOx.out.stored k (.int .i64 (-9))).1
        have HN2 := Lib.hid (Reads.setCell_ne HMx.out (a := ⟨gb, k, none⟩) (HNM.out gb hg2) (.int .i64 (-9)))
        have HN3 := Lib.hid (Reads.setCell_ne HKx.out (a := ⟨gb, k, none⟩) (HNK.out gb hg2) (.int .i64 (-9)))
        clear hu hxl
        go_wp2_with fail
        exact ⟨⟨k + 1, _, by omega, by go_num, hx.setCell (p := ⟨gb, k, none⟩) hgB _, HN1, HN2, HN3⟩, by simp [intOf]; omega⟩
      · have hzr := hz6.trans hx
        have hqr := hq6.trans hx
        obtain ⟨d0, d1, l0, c0, c1, l1⟩ := HB.out _ hzr
        obtain ⟨m0, m1, ml⟩ := HQB.out _ hqr
        have HD1 := Lib.hid (SameInts9_any mp kp mc kc L L (by omega) wr HMx.out HKx.out rfl)
        go_wp2_with fail
        refine HD1.out.mono ?_
        rintro e w13 ⟨rfl, hy13⟩
        have hz13 := hzr.trans hy13
        have hq13 := hqr.trans hy13
        obtain ⟨d0, d1, l0, c0, c1, l1⟩ := HB.out _ hz13
        obtain ⟨m0, m1, ml⟩ := HQB.out _ hq13
        go_wp2_with fail
        refine (HSM.out _ _ _ _ (HX.out.trans hz13) (HQ.out _ hq13)).mono ?_
        rintro e w14 ⟨rfl, hy14⟩
        go_wp2_with fail
        go_ret
        exact ⟨rfl, HX.out.trans (hz13.trans hy14)⟩
end Go.Proofs.YtkmfhcjdaglikaaGreatDoor
