/- ParadigmNames: the values that the closed law asks for, and each call's contract at its closed arguments. -/
import Derived.Test.YtkmfhcjdaglikaaDoorPasj
namespace Go.Proofs.YtkmfhcjdaglikaaDoor
open Go.RowKit Go.Cg Go.Shelf Go.Maps

theorem samA_ok9 : samA.Ok := by decide +kernel
theorem cel_cell : cellB samA ⟨0, affN 8⟩ = true := by decide +kernel
theorem par_1 : parE samA ⟨t_p1, celN 256 8⟩ = 0 := parE_all samA_ok9 (by decide +kernel) (by rw [celN_len]; decide) (by rw [celN_len]; decide) (fun k hk => by rw [celN_len] at hk; rw [celN_cx hk]; exact cel_cell)
theorem par_2 : parE samA ⟨t_p1, celN 257 0⟩ = 170 := parE_few samA_ok9 (by rw [celN_len]; decide)
theorem par_3 : parE samA ⟨t_p1, celN 1 9⟩ = 170 := parE_cell samA_ok9 (k := 0) (by rw [celN_len]; decide) (by rw [celN_cx (by decide)]; exact cellB_many (by rw [affN_len]; decide))
theorem par_4 : parE samA ⟨t_p1, celN 0 0⟩ = 170 := parE_few samA_ok9 (by rw [celN_len]; decide)
/-- the five names that are none -/
def nmL (K : ByteArray) : List ByteArray := [⟨#[65]⟩, ⟨#[97, 32, 98]⟩, ⟨#[195, 169]⟩, ⟨#[97, 95]⟩, K]
def nmF (K : ByteArray) (i : Nat) : ByteArray := (nmL K).getD i ⟨#[]⟩
theorem nm_bad : ∀ i : Fin 5, nmB (nmF (kB 33) i.val) = false ∧ (nmF (kB 33) i.val).size ≤ 140737488351232 := by decide +kernel
theorem nm_cells (K : ByteArray) : ∀ j, j < 5 → #[Value.string ⟨#[65]⟩, .string ⟨#[97, 32, 98]⟩, .string ⟨#[195, 169]⟩, .string ⟨#[97, 95]⟩, .string K][j]? = some (.string (nmF K j)) := fun j hj => by
  match j, hj with
  | 0, _ => rfl
  | 1, _ => rfl
  | 2, _ => rfl
  | 3, _ => rfl
  | 4, _ => rfl

theorem pck_lit (fp ap : Option Addr) (fc ac : Nat) (s : ByteArray) (hs : s.size ≤ 140737488351232) (n m : Nat) (E : Int) (hE : parE samA ⟨s, celN n m⟩ = E) (p : Option Addr) (c : Nat) (g : Nat → Option Addr × Nat) (W : World) (hA : AlphaAt W fp ap samA) (hT : Tabs W) (hP : CellsAt W p (celN n m) g) :
    Calls Tryd.prog 10 #[.agg #[.slice fp 1 fc, .slice ap 5 ac], .agg #[.string s, .slice p n c]] W fun e w' => e = .returned (.int .i64 E) ∧ Ext W w' := by
  have h := pcheck_any fp ap p fc ac c samA ⟨s, celN n m⟩ g hs (fun k hk j hj => by
    dsimp only at hk hj ⊢
    rw [celN_len] at hk
    rw [celN_cx hk] at hj ⊢
    dsimp only at hj ⊢
    rw [affN_len] at hj
    rw [affN_ax hj]
    unfold Aff.small affA; decide) W hA hT hP
  rw [hE] at h
  dsimp only at h
  rw [celN_len] at h
  exact h

/-- the nineteen affixes that may not be -/
def wrL (K : ByteArray) : List Aff := [⟨0, ⟨#[]⟩, ⟨#[]⟩, 0⟩, ⟨7, ⟨#[]⟩, ⟨#[]⟩, 0⟩, ⟨1, ⟨#[]⟩, ⟨#[97]⟩, 0⟩, ⟨2, ⟨#[]⟩, ⟨#[]⟩, 1⟩, ⟨2, ⟨#[120]⟩, ⟨#[]⟩, 0⟩, ⟨3, ⟨#[97]⟩, ⟨#[120]⟩, 0⟩, ⟨3, ⟨#[]⟩, ⟨#[]⟩, 1⟩, ⟨4, ⟨#[97]⟩, ⟨#[]⟩, 65⟩, ⟨4, ⟨#[97]⟩, ⟨#[]⟩, -1⟩, ⟨4, ⟨#[97]⟩, ⟨#[97]⟩, 0⟩, ⟨5, ⟨#[120]⟩, ⟨#[]⟩, 0⟩, ⟨5, ⟨#[97]⟩, ⟨#[]⟩, 1⟩, ⟨5, ⟨#[]⟩, ⟨#[97]⟩, 0⟩, ⟨6, ⟨#[97]⟩, ⟨#[]⟩, 0⟩, ⟨6, ⟨#[]⟩, ⟨#[]⟩, 65⟩, ⟨6, ⟨#[]⟩, ⟨#[]⟩, -1⟩, ⟨6, ⟨#[]⟩, ⟨#[97]⟩, 0⟩, ⟨1, K, ⟨#[]⟩, 0⟩, ⟨1, ⟨#[95]⟩, ⟨#[]⟩, 0⟩]
theorem wr_one : ∀ i : Fin 19, oneE samA 1 kitS (ax (wrL (kB 65)) i.val) = 170 := by decide +kernel
theorem wr_wf : ∀ i : Fin 19, (ax (wrL (kB 65)) i.val).wf := by unfold Aff.wf; decide +kernel
theorem wr_small : ∀ i : Fin 19, (ax (wrL (kB 65)) i.val).small := by unfold Aff.small; decide +kernel
theorem put_bad {A : Alpha} {v : Nat} {s : ByteArray} {x : Aff} (h : oneE A v s x = 170) : putE A v s x = 170 ∧ putS A v s x = ⟨#[]⟩ ∧ offS A v s x = [] := by
  have h1 : putE A v s x = 170 := by unfold putE; rw [if_pos (by rw [h]; decide), h]
  refine ⟨h1, ?_, ?_⟩
  · unfold putS; rw [if_neg (by rw [h1]; decide)]
  · unfold offS; rw [if_neg (by rw [h]; decide)]
theorem wr_put (fp ap : Option Addr) (fc ac : Nat) (K : ByteArray) (hK : kB 65 = K) (i : Nat) (hi : i < 19) (W : World) (hA : AlphaAt W fp ap samA) (hT : Tabs W) :
    Calls Tryd.prog 13 #[.agg #[.slice fp 1 fc, .slice ap 5 ac], .int .u32 1, .string ⟨#[107, 105, 116]⟩, .agg #[.int .u8 ((ax (wrL K) i).kind : Int), .string (ax (wrL K) i).form, .string (ax (wrL K) i).other, .int .i64 (ax (wrL K) i).pos]] W fun e w' => e = .returned (.tuple #[.string ⟨#[]⟩, .int .i64 170]) ∧ Ext W w' := by
  subst hK
  have h := put_any fp ap fc ac samA 1 (by decide) kitS (by decide) _ (wr_wf ⟨i, hi⟩) (wr_small ⟨i, hi⟩) W hA hT
  rw [(put_bad (wr_one ⟨i, hi⟩)).1, (put_bad (wr_one ⟨i, hi⟩)).2.1] at h
  exact h
theorem wr_off (fp ap : Option Addr) (fc ac : Nat) (K : ByteArray) (hK : kB 65 = K) (i : Nat) (hi : i < 19) (W : World) (hA : AlphaAt W fp ap samA) (hT : Tabs W) :
    Calls Tryd.prog 14 #[.agg #[.slice fp 1 fc, .slice ap 5 ac], .int .u32 1, .string ⟨#[107, 105, 116]⟩, .agg #[.int .u8 ((ax (wrL K) i).kind : Int), .string (ax (wrL K) i).form, .string (ax (wrL K) i).other, .int .i64 (ax (wrL K) i).pos]] W fun e w' => (∃ p c, e = .returned (.tuple #[.slice p 0 c, .int .i64 170])) ∧ Ext W w' := by
  subst hK
  have h := off_any fp ap fc ac samA 1 (by decide) kitS (by decide) _ (wr_wf ⟨i, hi⟩) (wr_small ⟨i, hi⟩) W hA hT
  rw [wr_one ⟨i, hi⟩] at h
  exact h.mono fun e w' h => ⟨opt_nil (put_bad (wr_one ⟨i, hi⟩)).2.2 h.1, h.2⟩
theorem wr_affs {K : ByteArray} (hK : kB 65 = K) {W : World} {B : Nat} (hB : B < W.heap.size) (h : ∀ j, W.cell? ⟨B, j, none⟩ = (affList (wrL K))[j]?) : AffsAt W (some ⟨B, 0, none⟩) (wrL K) := by
  subst hK
  refine ⟨.inr ⟨B, 0, rfl, hB, fun j hj => ?_⟩, fun j hj => wr_wf ⟨j, hj⟩, by decide⟩
  rw [Nat.zero_add, h]
  unfold affList
  rw [List.getElem?_map, List.getElem?_range hj]
  rfl

/-- the long paradigm -/
def lonP : Para := ⟨⟨#[]⟩, [⟨0, [⟨6, ⟨#[]⟩, ⟨#[]⟩, 0⟩, ⟨6, ⟨#[]⟩, ⟨#[]⟩, 0⟩]⟩, ⟨0, [⟨6, ⟨#[]⟩, ⟨#[]⟩, 0⟩, ⟨6, ⟨#[]⟩, ⟨#[]⟩, 0⟩, ⟨2, ⟨#[97]⟩, ⟨#[]⟩, 0⟩]⟩]⟩
def lonG (b : Nat) (i : Nat) : Option Addr × Nat := if i = 0 then (some ⟨b, 0, none⟩, 2) else (some ⟨b + 1, 0, none⟩, 3)
theorem lonP_small : ∀ k, k < lonP.cells.length → ∀ j, j < (cx lonP.cells k).affs.length → (ax (cx lonP.cells k).affs j).small := by
  intro k hk j hj
  unfold Aff.small
  have h1 : k < 2 := hk
  match k, h1 with
  | 0, _ =>
    have h2 : j < 2 := hj
    match j, h2 with
    | 0, _ => decide
    | 1, _ => decide
  | 1, _ =>
    have h2 : j < 3 := hj
    match j, h2 with
    | 0, _ => decide
    | 1, _ => decide
    | 2, _ => decide
theorem lonP_at {W : World} {B : Nat} (h0 : ∀ j, W.cell? ⟨B, j, none⟩ = #[Value.int .u8 6, .string ⟨#[]⟩, .string ⟨#[]⟩, .int .i64 0, .int .u8 6, .string ⟨#[]⟩, .string ⟨#[]⟩, .int .i64 0][j]?)
    (h1 : ∀ j, W.cell? ⟨B + 1, j, none⟩ = #[Value.int .u8 6, .string ⟨#[]⟩, .string ⟨#[]⟩, .int .i64 0, .int .u8 6, .string ⟨#[]⟩, .string ⟨#[]⟩, .int .i64 0, .int .u8 2, .string ⟨#[97]⟩, .string ⟨#[]⟩, .int .i64 0][j]?)
    (h2 : ∀ j, W.cell? ⟨B + 1 + 1, j, none⟩ = #[Value.int .u64 0, .slice (some ⟨B, 0, none⟩) 2 2, .int .u64 0, .slice (some ⟨B + 1, 0, none⟩) 3 3][j]?) (hB : B + 1 + 1 < W.heap.size) : CellsAt W (some ⟨B + 1 + 1, 0, none⟩) lonP.cells (lonG B) := by
  refine ⟨.inr ⟨B + 1 + 1, 0, rfl, hB, fun j hj => ?_⟩, fun i hi => ?_, fun i hi => ?_, by decide⟩
  · have hj2 : j < 4 := hj
    rw [Nat.zero_add, h2]
    match j, hj2 with
    | 0, _ => rfl
    | 1, _ => rfl
    | 2, _ => rfl
    | 3, _ => rfl
  · have hi2 : i < 2 := hi
    match i, hi2 with
    | 0, _ =>
      refine ⟨.inr ⟨B, 0, rfl, by omega, fun j hj => ?_⟩, fun j hj => ?_, by decide⟩
      · have hj2 : j < 8 := hj
        rw [Nat.zero_add, h0]
        match j, hj2 with
        | 0, _ => rfl
        | 1, _ => rfl
        | 2, _ => rfl
        | 3, _ => rfl
        | 4, _ => rfl
        | 5, _ => rfl
        | 6, _ => rfl
        | 7, _ => rfl
      · have hj2 : j < 2 := hj
        unfold Aff.wf
        match j, hj2 with
        | 0, _ => decide
        | 1, _ => decide
    | 1, _ =>
      refine ⟨.inr ⟨B + 1, 0, rfl, by omega, fun j hj => ?_⟩, fun j hj => ?_, by decide⟩
      · have hj2 : j < 12 := hj
        rw [Nat.zero_add, h1]
        match j, hj2 with
        | 0, _ => rfl
        | 1, _ => rfl
        | 2, _ => rfl
        | 3, _ => rfl
        | 4, _ => rfl
        | 5, _ => rfl
        | 6, _ => rfl
        | 7, _ => rfl
        | 8, _ => rfl
        | 9, _ => rfl
        | 10, _ => rfl
        | 11, _ => rfl
      · have hj2 : j < 3 := hj
        unfold Aff.wf
        match j, hj2 with
        | 0, _ => decide
        | 1, _ => decide
        | 2, _ => decide
  · have hi2 : i < 2 := hi
    match i, hi2 with
    | 0, _ => decide
    | 1, _ => decide

def xT : ByteArray := ⟨#[120]⟩
def noP : Para := ⟨⟨#[]⟩, []⟩
def noA9 : Alpha := ⟨[], []⟩
def aff0 : Aff := ⟨0, ⟨#[]⟩, ⟨#[]⟩, 0⟩
def affD : Aff := ⟨6, ⟨#[]⟩, ⟨#[]⟩, 3⟩
theorem pn_1 : formE samA 1 lonP 0 (kB 64) = 0 := by decide +kernel
theorem pn_1s : formS samA 1 lonP 0 (kB 64) = kB 256 := by decide +kernel
theorem pn_2 : formE samA 1 lonP 1 (kB 64) = 9 := by decide +kernel
theorem pn_3 : formE samA 1 lonP 0 (kB 65) = 4 := by decide +kernel
theorem pn_4 : formE samA 1 lonP 2 (kB 65) = 8 := by decide +kernel
theorem pn_5 : formE samA 2 noP 0 xT = 20 := by decide +kernel
theorem pn_6 : formE samA 1 noP 9 xT = 170 := by decide +kernel
theorem pn_7 : putE noA9 9 xT aff0 = 7 := by decide +kernel
theorem pn_8 : putE samA 1 xT aff0 = 5 := by decide +kernel
theorem pn_9 : cellE samA 1 lonP (-1) xT = 8 := by decide +kernel
theorem pn_10 : putE samA 1 kitS affD = 0 := by decide +kernel
theorem pn_10s : putS samA 1 kitS affD = ⟨#[107, 105, 116, 107, 105, 116]⟩ := by decide +kernel
theorem kB_size (n : Nat) : (kB n).size = n := by unfold kB ByteArray.size; simp
theorem noA9_at (W : World) : AlphaAt W none none noA9 := ⟨.inl rfl, .inl rfl, by decide, by decide, fun i hi => absurd hi (by simp [noA9]), fun i hi => absurd hi (by simp [noA9])⟩
theorem noP_at (W : World) : CellsAt W none noP.cells (fun _ => (none, 0)) := ⟨.inl rfl, fun i hi => absurd hi (by simp [noP]), fun i hi => absurd hi (by simp [noP]), by decide⟩
theorem form_err {A : Alpha} {v : Nat} {P : Para} {n : Int} {s : ByteArray} {E : Int} (h : formE A v P n s = E) (hE : E ≠ 0) : formS A v P n s = ⟨#[]⟩ := by unfold formS; rw [if_neg (by rw [h]; exact hE)]
theorem put_err9 {A : Alpha} {v : Nat} {s : ByteArray} {x : Aff} {E : Int} (h : putE A v s x = E) (hE : E ≠ 0) : putS A v s x = ⟨#[]⟩ := by unfold putS; rw [if_neg (by rw [h]; exact hE)]

theorem lon_form (fp ap : Option Addr) (fc ac : Nat) (n : Int) (hnl : -9223372036854775808 ≤ n) (hnh : n ≤ 9223372036854775807) (s : ByteArray) (hs : s.size ≤ 140737488351232) (E : Int) (S : ByteArray) (hE : formE samA 1 lonP n s = E) (hS : formS samA 1 lonP n s = S) (B : Nat) (W : World) (hA : AlphaAt W fp ap samA) (hT : Tabs W) (hP : CellsAt W (some ⟨B + 1 + 1, 0, none⟩) lonP.cells (lonG B)) :
    Calls Tryd.prog 15 #[.agg #[.slice fp 1 fc, .slice ap 5 ac], .int .u32 1, .agg #[.string ⟨#[]⟩, .slice (some ⟨B + 1 + 1, 0, none⟩) 2 2], .int .i64 n, .string s] W fun e w' => e = .returned (.tuple #[.string S, .int .i64 E]) ∧ Ext W w' := by
  have h := form_any fp ap _ fc ac 2 samA 1 (by decide) lonP _ n hnl hnh s hs (by decide) lonP_small W hA hT hP
  rw [hE, hS] at h
  exact h
theorem no_form (fp ap : Option Addr) (fc ac : Nat) (v : Nat) (hv : v < 4294967296) (n : Int) (hnl : -9223372036854775808 ≤ n) (hnh : n ≤ 9223372036854775807) (E : Int) (hE : formE samA v noP n xT = E) (hE0 : E ≠ 0) (W : World) (hA : AlphaAt W fp ap samA) (hT : Tabs W) :
    Calls Tryd.prog 15 #[.agg #[.slice fp 1 fc, .slice ap 5 ac], .int .u32 v, .agg #[.string ⟨#[]⟩, .slice none 0 0], .int .i64 n, .string ⟨#[120]⟩] W fun e w' => e = .returned (.tuple #[.string ⟨#[]⟩, .int .i64 E]) ∧ Ext W w' := by
  have h := form_any fp ap none fc ac 0 samA v hv noP (fun _ => (none, 0)) n hnl hnh xT (by decide) (by decide) (fun k hk => absurd hk (by simp [noP])) W hA hT (noP_at W)
  rw [form_err hE hE0, hE] at h
  exact h
theorem pn7_any (W : World) (hT : Tabs W) :
    Calls Tryd.prog 13 #[.agg #[.slice none 0 0, .slice none 0 0], .int .u32 9, .string ⟨#[120]⟩, .agg #[.int .u8 0, .string ⟨#[]⟩, .string ⟨#[]⟩, .int .i64 0]] W fun e w' => e = .returned (.tuple #[.string ⟨#[]⟩, .int .i64 7]) ∧ Ext W w' := by
  have h := put_any none none 0 0 noA9 9 (by decide) xT (by decide) aff0 (by unfold Aff.wf; decide) (by unfold Aff.small; decide) W (noA9_at W) hT
  rw [put_err9 pn_7 (by decide), pn_7] at h
  exact h
theorem pn8_any (fp ap : Option Addr) (fc ac : Nat) (W : World) (hA : AlphaAt W fp ap samA) (hT : Tabs W) :
    Calls Tryd.prog 13 #[.agg #[.slice fp 1 fc, .slice ap 5 ac], .int .u32 1, .string ⟨#[120]⟩, .agg #[.int .u8 0, .string ⟨#[]⟩, .string ⟨#[]⟩, .int .i64 0]] W fun e w' => e = .returned (.tuple #[.string ⟨#[]⟩, .int .i64 5]) ∧ Ext W w' := by
  have h := put_any fp ap fc ac samA 1 (by decide) xT (by decide) aff0 (by unfold Aff.wf; decide) (by unfold Aff.small; decide) W hA hT
  rw [put_err9 pn_8 (by decide), pn_8] at h
  exact h
theorem pn9_any (fp ap : Option Addr) (fc ac : Nat) (B : Nat) (W : World) (hA : AlphaAt W fp ap samA) (hT : Tabs W) (hP : CellsAt W (some ⟨B + 1 + 1, 0, none⟩) lonP.cells (lonG B)) :
    Calls Tryd.prog 16 #[.agg #[.slice fp 1 fc, .slice ap 5 ac], .int .u32 1, .agg #[.string ⟨#[]⟩, .slice (some ⟨B + 1 + 1, 0, none⟩) 2 2], .int .i64 (-1), .string ⟨#[120]⟩] W fun e w' => (∃ p c, e = .returned (.tuple #[.slice p 0 c, .int .i64 8])) ∧ Ext W w' := by
  have h := stems_any fp ap _ fc ac 2 samA 1 (by decide) lonP _ (-1) (by decide) (by decide) xT (by decide) (by decide) lonP_small W hA hT hP
  have h0 : stemS samA 1 lonP (-1) xT = [] := stem_no (by rw [pn_9]; decide)
  rw [pn_9] at h
  exact h.mono fun e w' h => ⟨opt_nil h0 h.1, h.2⟩
theorem pn10_any (fp ap : Option Addr) (fc ac : Nat) (W : World) (hA : AlphaAt W fp ap samA) (hT : Tabs W) :
    Calls Tryd.prog 13 #[.agg #[.slice fp 1 fc, .slice ap 5 ac], .int .u32 1, .string ⟨#[107, 105, 116]⟩, .agg #[.int .u8 6, .string ⟨#[]⟩, .string ⟨#[]⟩, .int .i64 3]] W fun e w' => e = .returned (.tuple #[.string ⟨#[107, 105, 116, 107, 105, 116]⟩, .int .i64 0]) ∧ Ext W w' := by
  have h := put_any fp ap fc ac samA 1 (by decide) kitS (by decide) affD (by unfold Aff.wf; decide) (by unfold Aff.small; decide) W hA hT
  rw [pn_10s, pn_10] at h
  exact h
end Go.Proofs.YtkmfhcjdaglikaaDoor
