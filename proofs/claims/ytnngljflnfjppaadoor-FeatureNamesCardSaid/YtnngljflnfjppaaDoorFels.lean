/- Contract: cognatelaw02.full: an alphabet of so many features and letters. -/
import Derived.Test.YtnngljflnfjppaaDoorFeln
import Derived.Laws.IdiomStrings
namespace Go.Cg
open Go.RowKit
def fullF (i : Nat) : ByteArray := ⟨#[UInt8.ofNat (97 + i), 97]⟩
def fullL (i : Nat) : Letter := ⟨1024 + i, i, 65280⟩
def fullA (f n : Nat) : Alpha := ⟨(List.range f).map fullF, (List.range n).map fullL⟩
theorem fullA_ft {f n i : Nat} (h : i < f) : (fullA f n).ft i = fullF i := by simp [Alpha.ft, fullA, List.getD, h]
theorem fullA_at {f n i : Nat} (h : i < n) : (fullA f n).at_ i = fullL i := by simp [Alpha.at_, fullA, List.getD, h]
def fullFv (k : Nat) : List Value := (List.range k).map fun i => .string (fullF i)
def fullLv (k : Nat) : List Value := (List.range k).flatMap fun (i : Nat) => [.int .i32 (1024 + (i : Int)), .int .u32 (i : Int), .int .u32 65280]
theorem fullFv_succ (k : Nat) : fullFv (k + 1) = fullFv k ++ [.string (fullF k)] := by simp [fullFv, List.range_succ]
theorem fullLv_succ (k : Nat) : fullLv (k + 1) = fullLv k ++ [.int .i32 (1024 + (k : Int)), .int .u32 (k : Int), .int .u32 65280] := by simp [fullLv, List.range_succ]
theorem fullFv_at {k j : Nat} (h : j < k) : (fullFv k)[j]? = some (.string (fullF j)) := by simp [fullFv, h]
theorem fullLv_at : ∀ {k j : Nat}, j < k * 3 → (fullLv k)[j]? = some ((fullA 0 k).letCell j)
  | 0, j, h => by omega
  | k + 1, j, h => by
    have hlen : (fullLv k).length = k * 3 := by
      clear h
      induction k with
      | zero => rfl
      | succ k ih => rw [fullLv_succ, List.length_append, ih]; simp; omega
    have hL : (fullA 0 (k + 1)).letCell j = if j % 3 = 0 then .int .i32 ((fullA 0 (k + 1)).at_ (j / 3)).rune else if j % 3 = 1 then .int .u32 (((fullA 0 (k + 1)).at_ (j / 3)).plus : Int) else .int .u32 (((fullA 0 (k + 1)).at_ (j / 3)).minus : Int) := rfl
    rw [hL, fullA_at (by omega), fullLv_succ]
    rcases Nat.lt_or_ge j (k * 3) with h1 | h1
    · rw [List.getElem?_append_left (by omega), fullLv_at h1]
      have hL2 : (fullA 0 k).letCell j = if j % 3 = 0 then .int .i32 ((fullA 0 k).at_ (j / 3)).rune else if j % 3 = 1 then .int .u32 (((fullA 0 k).at_ (j / 3)).plus : Int) else .int .u32 (((fullA 0 k).at_ (j / 3)).minus : Int) := rfl
      rw [hL2, fullA_at (by omega)]
    · rw [List.getElem?_append_right (by omega), hlen]
      have hd : j / 3 = k := by omega
      rw [hd]
      rcases (show j - k * 3 = 0 ∨ j - k * 3 = 1 ∨ j - k * 3 = 2 by omega) with e | e | e
      · rw [e, if_pos (by omega)]; rfl
      · rw [e, if_neg (by omega), if_pos (by omega)]; rfl
      · rw [e, if_neg (by omega), if_neg (by omega)]; rfl
end Go.Cg
namespace Go.Proofs.YtnngljflnfjppaaDoor
open Go.RowKit Go.Cg Go.Shelf Go.Maps

theorem ownBlock_ge {w : World} {B : Nat} {e : TypeId} {size n : Nat} {v : Value} {xs : List Value} (h : w.ownsRow B e size v n xs) : ∀ g, v.ownBlock = some g → B ≤ g := by
  intro g hg
  rcases h.2 with ⟨rfl, _⟩ | ⟨g', cap, cur, rfl, hb, _⟩
  · cases hg
  · cases hg; exact hb
theorem ownsRow_set {w : World} {B : Nat} {e : TypeId} {size n : Nat} {v : Value} {xs : List Value} (h : w.ownsRow B e size v n xs) {a : Addr} (ha : a.block < B) (u : Value) : (w.setCell a u).ownsRow B e size v n xs := by
  refine ⟨h.1, ?_⟩
  rcases h.2 with hn | ⟨g, cap, cur, hv, hb, hg, r⟩
  · exact .inl hn
  · exact .inr ⟨g, cap, cur, hv, hb, (heap_setCell_other _ _ _ _ (by omega)).trans hg, r⟩
theorem reads_grown {w w' : World} {p : Option Addr} {k : Nat} {f : Nat → Value} {o : Option Nat} (h : Reads w p k f) (hg : w.grownBy w' o) (hne : ∀ b off, p = some ⟨b, off, none⟩ → o ≠ some b) (hs : w.heap.size ≤ w'.heap.size) : Reads w' p k f := by
  rcases h with h | ⟨b, off, e, hlt, hc⟩
  · exact .inl h
  · exact .inr ⟨b, off, e, Nat.lt_of_lt_of_le hlt hs, fun j hj => (cell_same (hg.block b hlt (fun e2 => hne b off e e2.symm))).trans (hc j hj)⟩

theorem not_bits : ∀ j : Fin 200, bits BinOp.and IntKind.u32 (bits BinOp.xor IntKind.i64 (-1) ((j.val : Nat) : Int) % 4294967296) 65280 = 65280 := by decide +kernel
theorem three_cells (w : World) (a b c : Value) (T : TypeId) : ∀ j u, [a, b, c][j]? = some u → (w.alloc (.cells #[a, b, c] T (0, 0))).cell? ((⟨w.heap.size, 0, none⟩ : Addr).add j) = some u := by
  intro j u h
  rw [add_off, Nat.zero_add]
  rw [(Ext.refl (w.alloc (.cells #[a, b, c] T (0, 0)))).cell0 j]
  simpa using h

set_option maxRecDepth 100000 in
set_option maxHeartbeats 4000000 in
theorem full_any (f n : Nat) (hf : f ≤ 26) (hn : n ≤ 200) (w : World) :
    Calls Tryd.prog 9 #[.int .i64 f, .int .i64 n] w fun e w' => ∃ gp mp gc mc, e = .returned (.agg #[.slice gp (fullA f n).feats.length gc, .slice mp (fullA f n).lets.length mc]) ∧ AlphaAt w' gp mp (fullA f n) ∧ Ext w w' := by
  obtain ⟨iS, hiS, hzS0, hzS1, hzS2⟩ := info_parts infoStr
  obtain ⟨iL, hiL, hzL0, hzL1, hzL2⟩ := info_parts infoLet
  go_enter Tryd.func9, Tryd.ntmps9
  go_wp2_with fail
  go_loopw [6] (fun i wr => ∃ (k : Nat) (v : Value), k ≤ f ∧ i = .int .i64 k ∧ Ext w wr ∧ wr.heap[w.heap.size]? = some (.cells #[.slice none 0 0, .slice none 0 0] 26 (0, 0)) ∧ wr.heap[w.heap.size + 1]? = some (.cells #[v, .slice none 0 0] 26 (0, 0)) ∧ wr.ownsRow (w.heap.size + 2) 9 1 v k (fullFv k)) (fun i _ => f - (intOf i).toNat)
  case atStart =>
    refine ⟨0, .slice none 0 0, Nat.zero_le _, rfl, ((Ext.refl _).alloc _).alloc _, (Below.block ((Ext.refl (w.alloc (.cells #[.slice none 0 0, .slice none 0 0] 26))).alloc _) w.heap.size (by simp)).trans (heap_alloc_new w _), ?_, World.ownsRow_nil _ _ _ _⟩
    have := heap_alloc_new (w.alloc (.cells #[.slice none 0 0, .slice none 0 0] 26)) (.cells #[.slice none 0 0, .slice none 0 0] 26)
    rw [size_alloc] at this; exact this
  case round =>
    obtain ⟨k, v, hk, rfl, hx, hr0, hr1, hown⟩ := hrel
    have c0 : wr.cell? ⟨w.heap.size + 1, 0, none⟩ = some v := by rw [Lib.cell_of_heap hr1]; rfl
    have c1 : wr.cell? ⟨w.heap.size + 1, 1, none⟩ = some (.slice none 0 0) := by rw [Lib.cell_of_heap hr1]; rfl
    have hlw := (Array.getElem?_eq_some_iff.1 hr1).1
    by_cases hlt : k < f
    · have z0 := Lib.frozen_of_heap hr1 0
      have z1 := Lib.frozen_of_heap hr1 1
      have e3 : (k : Int).tmod 26 = k := by rw [Int.tmod_eq_emod_of_nonneg (by omega)]; omega
      have e4 : (k : Int).tdiv 26 = 0 := by rw [Int.tdiv_eq_ediv_of_nonneg (by omega)]; omega
      have hu : ((UInt8.ofNat (97 + k)).toNat : Int) = 97 + (k : Int) := by rw [UInt8.toNat_ofNat']; omega
      have hcv : (convert 36 9 (.slice (some ⟨wr.heap.size, 0, none⟩) 2 2)).run Tryd.prog (wr.alloc (.cells #[.int .u8 (97 + (k : Int)), .int .u8 97] 5)) = .ok (.string (fullF k)) (wr.alloc (.cells #[.int .u8 (97 + (k : Int)), .int .u8 97] 5)) :=
        run_convert_bytes_back _ _ _ 5 ⟨wr.heap.size, 0, none⟩ 2 [UInt8.ofNat (97 + k), 97] Tryd.underlying36 Tryd.underlying5 Tryd.underlying9 (fun j hj => by
          have hj2 : j < 2 := hj
          have hc := fun j => (Ext.refl (wr.alloc (.cells #[.int .u8 (97 + (k : Int)), .int .u8 97] 5))).cell0 j
          match j, hj2 with
          | 0, _ => show (wr.alloc _).cell? ⟨wr.heap.size, 0 + 0, none⟩ = _; rw [hc]; simp only [List.getElem_cons_zero]; rw [hu]; rfl
          | 1, _ => show (wr.alloc _).cell? ⟨wr.heap.size, 0 + 1, none⟩ = _; rw [hc]; rfl)
      have HO : ∀ o o' : Obj, ((wr.alloc o).alloc o').ownsRow (w.heap.size + 2) 9 1 v k (fullFv k) := fun o o' => ownsRow_ext hown (((Ext.refl _).alloc _).alloc _)
      go_wp2_with (at_builtin; refine wpList_append_own _ rfl _ _ 23 rfl (w.heap.size + 2) 9 iS (.string ⟨#[]⟩) 1 16 Tryd.underlying23 hiS hzS0 hzS1 hzS2 rfl (by decide) _ _ _ rfl (HO _ _) ⟨wr.heap.size + 1, 0, none⟩ 1 1 [.string (fullF k)] rfl rfl (by have := one_cell (wr.alloc (.cells #[.int .u8 (97 + (k : Int)), .int .u8 97] 5)) (.string (fullF k)) 9; rw [size_alloc] at this; exact this) (by simp [Value.oneCell']) (by unfold maxLen; omega) (by omega) (by rw [size_alloc, size_alloc]; omega) ?_; intro v' w4 hown4 hgrow _; obtain ⟨p4, cc4, rfl⟩ := ownsRow_slice hown4; have hx4 : Ext w w4 := Ext.append ((hx.alloc _).alloc _) (HO _ _) hgrow (by omega); have hr14 := (hgrow.block (w.heap.size + 1) (by rw [size_alloc, size_alloc]; omega) (fun e => by have := ownBlock_ge hown _ e.symm; omega)).trans ((Below.block (((Ext.refl wr).alloc _).alloc _) (w.heap.size + 1) (by omega)).trans hr1); have hr04 := (hgrow.block w.heap.size (by rw [size_alloc, size_alloc]; omega) (fun e => by have := ownBlock_ge hown _ e.symm; omega)).trans ((Below.block (((Ext.refl wr).alloc _).alloc _) w.heap.size (by omega)).trans hr0); have y0 : w4.cell? ⟨w.heap.size + 1, 0, none⟩ = some v := (by rw [Lib.cell_of_heap hr14]; rfl); have y1 := Lib.frozen_of_heap hr14 0)
      exact ⟨⟨k + 1, .slice p4 (k + 1) cc4, by omega, by go_num, hx4.setCell (p := ⟨w.heap.size + 1, 0, none⟩) (by simp) _, (heap_setCell_other _ _ _ _ (by simp)).trans hr04, heap_setCell_same _ _ _ _ _ _ hr14, by rw [fullFv_succ]; exact ownsRow_set hown4 (by simp) _⟩, by simp [intOf]; omega⟩
    · have hkf : k = f := by omega
      subst hkf
      obtain ⟨pF, cF, rfl⟩ := ownsRow_slice hown
      have hRF : Reads wr pF k (fun j => .string (fullF j)) := by have := ownsRow_reads hown (f := fun j => .string (fullF j)) (fun j hj => fullFv_at (by omega)); simpa using this
      have hpF : ∀ b off, pF = some ⟨b, off, none⟩ → w.heap.size + 2 ≤ b ∧ b < wr.heap.size := fun b off e => ⟨ownsRow_place hown b off e, by
        rcases hown.2 with ⟨hn, _⟩ | ⟨g, cap, cur, hv, hB, hg, _⟩
        · simp only [Value.slice.injEq] at hn; rw [hn.1] at e; cases e
        · simp only [Value.slice.injEq] at hv
          rw [hv.1] at e
          simp only [Option.some.injEq, Addr.mk.injEq] at e
          have := (Array.getElem?_eq_some_iff.1 hg).1
          omega⟩
      obtain ⟨B2, hB2⟩ : ∃ B2, wr.heap.size = B2 := ⟨_, rfl⟩
      have hBw : w.heap.size + 2 ≤ B2 := by omega
      rw [hB2] at hpF
      clear hown c0 c1
      go_wp2_with fail
      go_loopw [7] (fun i wq => ∃ (j : Nat) (v : Value), j ≤ n ∧ i = .int .i64 j ∧ Ext w wq ∧ wq.heap[w.heap.size]? = some (.cells #[.slice none 0 0, .slice none 0 0] 26 (0, 0)) ∧ wq.heap[w.heap.size + 1]? = some (.cells #[.slice pF k cF, v] 26 (0, 0)) ∧ wq.ownsRow B2 35 3 v j (fullLv j) ∧ Reads wq pF k (fun j => .string (fullF j)) ∧ B2 ≤ wq.heap.size) (fun i _ => n - (intOf i).toNat)
      case atStart => exact ⟨0, .slice none 0 0, Nat.zero_le _, rfl, hx, hr0, hr1, World.ownsRow_nil _ _ _ _, hRF, by omega⟩
      case round =>
        clear hx hr0 hr1 hRF hlw
        obtain ⟨j, v, hj, rfl, hx, hr0, hr1, hown, hRF, hB2q⟩ := hrel
        have c0 : wr.cell? ⟨w.heap.size + 1, 0, none⟩ = some (.slice pF k cF) := by rw [Lib.cell_of_heap hr1]; rfl
        have c1 : wr.cell? ⟨w.heap.size + 1, 1, none⟩ = some v := by rw [Lib.cell_of_heap hr1]; rfl
        have hlw := (Array.getElem?_eq_some_iff.1 hr1).1
        by_cases hlt : j < n
        · have z1 := Lib.frozen_of_heap hr1 1
          have e1 : bits BinOp.and IntKind.u32 (j : Int) 255 = (j : Int) := by rw [and255 j (by omega)]; omega
          have e2 : bits BinOp.and IntKind.u32 (bits BinOp.xor IntKind.i64 (-1) (j : Int) % 4294967296) 65280 = 65280 := not_bits ⟨j, by omega⟩
          have HO : ∀ o : Obj, (wr.alloc o).ownsRow B2 35 3 v j (fullLv j) := fun o => ownsRow_ext hown ((Ext.refl _).alloc _)
          have hx1 : ∀ o : Obj, Ext wr (wr.alloc o) := fun o => (Ext.refl _).alloc _
          go_wp2_with (at_builtin; go_loud (refine wpList_append_own _ rfl _ _ 24 rfl B2 35 iL (.agg #[.int .i32 0, .int .u32 0, .int .u32 0]) 3 12 Tryd.underlying24 hiL hzL0 hzL1 hzL2 rfl (by decide) _ _ _ rfl (HO _) ⟨wr.heap.size, 0, none⟩ 1 1 [.int .i32 (1024 + (j : Int)), .int .u32 (j : Int), .int .u32 65280] rfl rfl (by simp only [show IntKind.signed IntKind.i64 = true from rfl, if_true, e2]; exact three_cells _ _ _ _ _) (by simp [Value.oneCell']) (by unfold maxLen; omega) (by omega) (by rw [size_alloc]; omega) ?_); intro v' w4 hown4 hgrow _; obtain ⟨p4, cc4, rfl⟩ := ownsRow_slice hown4; have hx4 : Ext w w4 := Ext.append (hx.alloc _) (HO _) hgrow (by omega); have hsz4 : wr.heap.size ≤ w4.heap.size := (by have := hgrow.size; rw [size_alloc] at this; omega); have hr14 := (hgrow.block (w.heap.size + 1) (by rw [size_alloc]; omega) (fun e => by have := ownBlock_ge hown _ e.symm; omega)).trans ((Below.block (hx1 _) (w.heap.size + 1) (by omega)).trans hr1); have hr04 := (hgrow.block w.heap.size (by rw [size_alloc]; omega) (fun e => by have := ownBlock_ge hown _ e.symm; omega)).trans ((Below.block (hx1 _) w.heap.size (by omega)).trans hr0); have hRF4 := reads_grown (hRF.mono (hx1 _)) hgrow (fun b off e e2 => by have h8 := ownBlock_ge hown _ e2; have h9 := hpF b off e; omega) hgrow.size; have y0 : w4.cell? ⟨w.heap.size + 1, 1, none⟩ = some v := (by rw [Lib.cell_of_heap hr14]; rfl); have y1 := Lib.frozen_of_heap hr14 1)
          exact ⟨⟨j + 1, .slice p4 (j + 1) cc4, by omega, by go_num, hx4.setCell (p := ⟨w.heap.size + 1, 1, none⟩) (by simp) _, (heap_setCell_other _ _ _ _ (by simp)).trans hr04, heap_setCell_same _ _ _ _ _ _ hr14, by rw [fullLv_succ]; exact ownsRow_set hown4 (by show w.heap.size + 1 < B2; omega) _, hRF4.turned (g := w.heap.size + 1) (fun b off e => by have := hpF b off e; omega) (by simp [World.setCell]) (fun t ht _ => heap_setCell_other _ _ _ _ (by exact ht)), by simp [World.setCell]; omega⟩, by simp [intOf]; omega⟩
        · have z0 := Lib.frozen_of_heap hr0 0
          have z1 := Lib.frozen_of_heap hr0 1
          have q0 : wr.cell? ⟨w.heap.size, 0, none⟩ = some (.slice none 0 0) := by rw [Lib.cell_of_heap hr0]; rfl
          have q1 : wr.cell? ⟨w.heap.size, 1, none⟩ = some (.slice none 0 0) := by rw [Lib.cell_of_heap hr0]; rfl
          have hjn : j = n := by omega
          subst hjn
          obtain ⟨pL, cL, rfl⟩ := ownsRow_slice hown
          have hpL := ownsRow_place hown
          have hRL : Reads wr pL (j * 3) (fullA 0 j).letCell := ownsRow_reads hown (fun t ht => fullLv_at ht)
          go_wp2_with fail
          refine bodyPost_ret (results_cell_row rfl _ _ w.heap.size 26 #[.slice pF k cF, .slice pL j cL] (0, 0) _ rfl (two_set hr0) Tryd.underlying26 rfl (by kernel_rfl)) rfl ?_
          have elF : (fullA k j).feats.length = k := by simp [fullA]
          have elL : (fullA k j).lets.length = j := by simp [fullA]
          refine ⟨pF, pL, cF, cL, by rw [elF, elL], ?_, (hx.setCell (p := ⟨w.heap.size, 0, none⟩) (by simp) _).setCell (p := ⟨w.heap.size, 1, none⟩) (by simp) _⟩
          have hn0 : ∀ (W : World) (v0 v1 : Value) (p : Option Addr) (kk : Nat) (g : Nat → Value), Reads W p kk g → (∀ b off, p = some ⟨b, off, none⟩ → b ≠ w.heap.size) → Reads ((W.setCell ⟨w.heap.size, 0, none⟩ v0).setCell ⟨w.heap.size, 1, none⟩ v1) p kk g := fun W v0 v1 p kk g h hp =>
            h.turned hp (by simp [World.setCell]) (fun t ht _ => by rw [heap_setCell_other _ _ _ _ (by exact ht), heap_setCell_other _ _ _ _ (by exact ht)])
          refine ⟨?_, ?_, by rw [elF]; omega, by rw [elL]; omega, fun i hi => ?_, fun i hi => ?_⟩
          · have h5 := hn0 wr (.slice pF k cF) (.slice pL j cL) pF k _ hRF (fun b off e => by have := hpF b off e; omega)
            rw [elF]
            rcases h5 with h5 | ⟨b, off, h6, h7, h8⟩
            · exact .inl h5
            · exact .inr ⟨b, off, h6, h7, fun t ht => by rw [h8 t ht]; show _ = some (Value.string ((fullA k j).ft t)); rw [fullA_ft ht]⟩
          · have h5 := hn0 wr (.slice pF k cF) (.slice pL j cL) pL (j * 3) _ hRL (fun b off e => by have := hpL b off e; omega)
            rw [elL]
            rcases h5 with h5 | ⟨b, off, h6, h7, h8⟩
            · exact .inl h5
            · refine .inr ⟨b, off, h6, h7, fun t ht => ?_⟩
              rw [h8 t ht]
              unfold Alpha.letCell
              rw [fullA_at (by omega), fullA_at (by omega)]
          · rw [elL] at hi
            rw [fullA_at hi]
            unfold Letter.wf fullL
            simp only
            omega
          · rw [elF] at hi
            rw [fullA_ft hi]
            show (2 : Nat) ≤ _
            omega
end Go.Proofs.YtnngljflnfjppaaDoor
