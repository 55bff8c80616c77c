/- Contracts of harmony's functions: Keeps (with slices.DeleteFunc and ContainsFunc) and Sets: each call returns the plain value named and only adds blocks to memory; conditions: as ahead. -/
import Derived.Test.YtcnjgfadihimiaaDoorHarma
import Derived.Laws.IdiomCopy
import Derived.Test.YtcnjgfadihimiaaDoorPart
import Derived.Deep.RegionLaw
namespace Go.Cg
open Go.RowKit Go.Lib
theorem gb_refl (w : World) (row : Option Nat) : w.grownBy w row := ⟨rfl, rfl, rfl, Nat.le_refl _, fun _ _ _ => rfl⟩
theorem gb_ext {w w' w'' : World} {row : Option Nat} (h : w.grownBy w' row) (hx : Ext w' w'') : w.grownBy w'' row :=
  ⟨hx.os.trans h.os, hx.tape.trans h.tape, hx.output.trans h.output, Nat.le_trans h.size hx.le, fun k hk hr => (Below.block hx k (Nat.lt_of_lt_of_le hk h.size)).trans (h.block k hk hr)⟩
theorem gb_trans {a b c : World} {row : Option Nat} (h : a.grownBy b row) (k : b.grownBy c row) : a.grownBy c row :=
  ⟨k.os.trans h.os, k.tape.trans h.tape, k.output.trans h.output, Nat.le_trans h.size k.size, fun i hi hr => (k.block i (Nat.lt_of_lt_of_le hi h.size) hr).trans (h.block i hi hr)⟩
theorem gb_set {w w' : World} {b : Nat} (h : w.grownBy w' (some b)) (i : Nat) (v : Value) : w.grownBy (w'.setCell ⟨b, i, none⟩ v) (some b) :=
  gb_trans h ⟨rfl, rfl, rfl, by rw [size_setCell]; exact Nat.le_refl _, fun k _ hr => Go.Deep.blk_setCell_other _ _ _ _ (fun e => hr (by rw [e]))⟩
theorem gb_box {w w' : World} {row : Option Nat} {B : Nat} {t : TypeId} {v : Value} (h : w.grownBy w' row) (hb : Boxed w B t v) (hr : some B ≠ row) : Boxed w' B t v := (h.block B hb.lt hr).trans hb
/-- the first one that q takes; -1: there is none -/
def idxL (q : Letter → Bool) (L : List Letter) : Int := match L.findIdx? q with
  | some i => (i : Int)
  | none => -1
theorem idxL_at {q : Letter → Bool} {L : List Letter} {i : Nat} (hi : i < L.length) (h0 : ∀ j, j < i → q (la L j) = false) (h1 : q (la L i) = true) : idxL q L = i := by
  have : L.findIdx? q = some i := by
    rw [List.findIdx?_eq_some_iff_getElem]
    refine ⟨hi, by rw [← la_eq hi]; exact h1, fun j hj => ?_⟩
    rw [← la_eq (by omega), h0 j hj]; decide
  simp [idxL, this]
theorem idxL_none {q : Letter → Bool} {L : List Letter} (h0 : ∀ j, j < L.length → q (la L j) = false) : idxL q L = -1 := by
  have : L.findIdx? q = none := by
    rw [List.findIdx?_eq_none_iff]
    intro x hx
    obtain ⟨j, hj, e⟩ := List.getElem_of_mem hx
    have := h0 j hj
    rw [la_eq hj, e] at this
    exact this
  simp [idxL, this]
theorem idxL_cases (q : Letter → Bool) (L : List Letter) : (idxL q L = -1 ∧ ∀ j, j < L.length → q (la L j) = false) ∨ ∃ i : Nat, idxL q L = i ∧ i < L.length ∧ q (la L i) = true ∧ ∀ j, j < i → q (la L j) = false := by
  unfold idxL
  cases h : L.findIdx? q with
  | none =>
    refine .inl ⟨rfl, fun j hj => ?_⟩
    rw [List.findIdx?_eq_none_iff] at h
    rw [la_eq hj]; exact h _ (List.getElem_mem hj)
  | some i =>
    obtain ⟨h1, h2, h3⟩ := List.findIdx?_eq_some_iff_getElem.1 h
    refine .inr ⟨i, rfl, h1, by rw [la_eq h1]; exact h2, fun j hj => ?_⟩
    rw [la_eq (by omega)]; simpa using h3 j hj
/-- those of the first j that are kept -/
def kpt (q : Letter → Bool) (L : List Letter) (j : Nat) : List Letter := (L.take j).filter fun l => !q l
theorem kpt_succ (q : Letter → Bool) {L : List Letter} {j : Nat} (hj : j < L.length) : kpt q L (j + 1) = if q (la L j) = true then kpt q L j else kpt q L j ++ [la L j] := by
  unfold kpt
  rw [List.take_succ_eq_append_getElem hj, List.filter_append, ← la_eq hj]
  cases h : q (la L j) <;> simp [h]
theorem kpt_le (q : Letter → Bool) (L : List Letter) (j : Nat) : (kpt q L j).length ≤ j := Nat.le_trans (List.length_filter_le _ _) (List.length_take_le _ _)
theorem kpt_all {q : Letter → Bool} {L : List Letter} : ∀ {j : Nat}, j ≤ L.length → (∀ i, i < j → q (la L i) = false) → kpt q L j = L.take j
  | 0, _, _ => by simp [kpt]
  | j + 1, hj, h => by
    rw [kpt_succ q (by omega), h j (by omega), if_neg (by decide), kpt_all (by omega) (fun i hi => h i (by omega)), List.take_succ_eq_append_getElem (by omega), la_eq (by omega)]
theorem kpt_end (q : Letter → Bool) (L : List Letter) : kpt q L L.length = L.filter fun l => !q l := by simp [kpt]
theorem letCell_app {M : List Letter} {x : Letter} {t : Nat} (h : t < M.length * 3) : Alpha.letCell ⟨[], M ++ [x]⟩ t = Alpha.letCell ⟨[], M⟩ t := by
  have e : Alpha.at_ ⟨[], M ++ [x]⟩ (t / 3) = Alpha.at_ ⟨[], M⟩ (t / 3) := by
    have : t / 3 < M.length := by omega
    simp [Alpha.at_, List.getD, List.getElem?_append_left this]
  unfold Alpha.letCell
  rw [e]
theorem letCell_new (M : List Letter) (x : Letter) : Alpha.letCell ⟨[], M ++ [x]⟩ (M.length * 3) = .int .i32 x.rune ∧ Alpha.letCell ⟨[], M ++ [x]⟩ (M.length * 3 + 1) = .int .u32 (x.plus : Int) ∧ Alpha.letCell ⟨[], M ++ [x]⟩ (M.length * 3 + 2) = .int .u32 (x.minus : Int) := by
  have h := letCell_la (M ++ [x]) M.length
  have e : la (M ++ [x]) M.length = x := by simp [la, List.getD]
  rw [e] at h
  exact h
/-- what DeleteFunc's loop keeps -/
def KeptI (q : Letter → Bool) (L : List Letter) (i j : Nat) (f : Nat → Value) : Prop :=
  i = (kpt q L j).length ∧ (∀ t, t < i * 3 → f t = Alpha.letCell ⟨[], kpt q L j⟩ t) ∧ ∀ t, j * 3 ≤ t → t < L.length * 3 → f t = Alpha.letCell ⟨[], L⟩ t
theorem KeptI.le {q : Letter → Bool} {L : List Letter} {i j : Nat} {f : Nat → Value} (h : KeptI q L i j f) : i ≤ j := by rw [h.1]; exact kpt_le q L j
theorem KeptI.start {q : Letter → Bool} {L : List Letter} {k : Nat} (hk : k < L.length) (h0 : ∀ j, j < k → q (la L j) = false) (h1 : q (la L k) = true) : KeptI q L k (k + 1) (Alpha.letCell ⟨[], L⟩) := by
  have e : kpt q L (k + 1) = L.take k := by rw [kpt_succ q hk, h1, if_pos rfl, kpt_all (by omega) h0]
  refine ⟨by rw [e]; simp; omega, fun t ht => ?_, fun t _ _ => rfl⟩
  rw [e]
  unfold Alpha.letCell
  have e2 : Alpha.at_ ⟨[], L⟩ (t / 3) = Alpha.at_ ⟨[], L.take k⟩ (t / 3) := by
    have : t / 3 < k := by omega
    simp [Alpha.at_, List.getD, this]
  rw [e2]
theorem KeptI.skip {q : Letter → Bool} {L : List Letter} {i j : Nat} {f : Nat → Value} (h : KeptI q L i j f) (hj : j < L.length) (hq : q (la L j) = true) : KeptI q L i (j + 1) f := by
  have e : kpt q L (j + 1) = kpt q L j := by rw [kpt_succ q hj, hq, if_pos rfl]
  exact ⟨by rw [e]; exact h.1, fun t ht => by rw [e]; exact h.2.1 t ht, fun t h1 h2 => h.2.2 t (by omega) h2⟩
theorem KeptI.keep {q : Letter → Bool} {L : List Letter} {i j : Nat} {f : Nat → Value} (h : KeptI q L i j f) (hj : j < L.length) (hq : q (la L j) = false) :
    KeptI q L (i + 1) (j + 1) (fun t => if t = i * 3 + 2 then .int .u32 ((la L j).minus : Int) else if t = i * 3 + 1 then .int .u32 ((la L j).plus : Int) else if t = i * 3 then .int .i32 (la L j).rune else f t) := by
  have e : kpt q L (j + 1) = kpt q L j ++ [la L j] := by rw [kpt_succ q hj, hq, if_neg (by decide)]
  have hle := h.le
  refine ⟨by rw [e, List.length_append, ← h.1]; rfl, fun t ht => ?_, fun t h1 h2 => ?_⟩
  · rw [e]
    obtain ⟨a, b, c⟩ := letCell_new (kpt q L j) (la L j)
    rw [← h.1] at a b c
    by_cases q2 : t = i * 3 + 2
    · subst q2; exact (if_pos rfl).trans c.symm
    · by_cases q1 : t = i * 3 + 1
      · subst q1; exact ((if_neg q2).trans (if_pos rfl)).trans b.symm
      · by_cases q0 : t = i * 3
        · subst q0; exact ((if_neg q2).trans ((if_neg q1).trans (if_pos rfl))).trans a.symm
        · refine ((if_neg q2).trans ((if_neg q1).trans (if_neg q0))).trans ((h.2.1 t (by omega)).trans (letCell_app ?_).symm)
          rw [← h.1]; omega
  · exact ((if_neg (by omega)).trans ((if_neg (by omega)).trans (if_neg (by omega)))).trans (h.2.2 t (by omega) h2)
theorem KeptI.at_ {q : Letter → Bool} {L : List Letter} {i j : Nat} {f : Nat → Value} (h : KeptI q L i j f) (hj : j < L.length) : f (j * 3) = .int .i32 (la L j).rune ∧ f (j * 3 + 1) = .int .u32 ((la L j).plus : Int) ∧ f (j * 3 + 2) = .int .u32 ((la L j).minus : Int) := by
  obtain ⟨a, b, c⟩ := letCell_la L j
  exact ⟨(h.2.2 _ (by omega) (by omega)).trans a, (h.2.2 _ (by omega) (by omega)).trans b, (h.2.2 _ (by omega) (by omega)).trans c⟩
theorem setCells_row {b : Nat} {T : TypeId} {N : Nat} : ∀ (vs : List Value) (o : Nat) (w : World) (f : Nat → Value), w.rowIs b T N f → (∃ f', (w.setCells b o vs).rowIs b T N f' ∧ ∀ t, t < o → f' t = f t) ∧ w.grownBy (w.setCells b o vs) (some b)
  | [], _, w, f, h => ⟨⟨f, h, fun _ _ => rfl⟩, gb_refl w _⟩
  | v :: vs, o, w, f, h => by
    obtain ⟨⟨f', h1, h2⟩, h3⟩ := setCells_row vs (o + 1) (w.setCell ⟨b, o, none⟩ v) _ (h.set o v)
    exact ⟨⟨f', h1, fun t ht => (h2 t (by omega)).trans (if_neg (by omega))⟩, gb_trans (gb_set (gb_refl w _) o v) h3⟩
theorem zc_len (z : Array Value) (n : Nat) : (Builtin.zeroCells z n).toList.length = n * z.size := by simp [Builtin.zeroCells]
theorem zc_mem {z : Array Value} {n : Nat} {v : Value} (h : v ∈ (Builtin.zeroCells z n).toList) (hz : 0 < z.size) : ∃ i, i < z.size ∧ v = z[i]! := by
  simp only [Builtin.zeroCells, Array.toList_map, List.mem_map] at h
  obtain ⟨i, _, rfl⟩ := h
  exact ⟨i % z.size, Nat.mod_lt _ hz, rfl⟩
/-- clear at letters -/
theorem clear_let {P : Program} (t e : TypeId) (ht : P.underlying t = some (.slice e)) (hv : ∀ w, (zeroValue e).run P w = .ok (letV ⟨0, 0, 0⟩) w) (w : World) (g : Nat) (T : TypeId) (N : Nat) (f : Nat → Value) (hR : w.rowIs g T N f) (o n c : Nat) (hn : 0 < n) (ho : o + n * 3 ≤ N) :
    ∃ W, (∀ ty, (Builtin.clear_ #[t] ty #[.slice (some ⟨g, o, none⟩) n c]).run P w = .ok (.tuple #[]) W) ∧ (∃ f', W.rowIs g T N f' ∧ ∀ t, t < o → f' t = f t) ∧ w.grownBy W (some g) := by
  have hz : (letV ⟨0, 0, 0⟩).cells = #[.int .i32 0, .int .u32 0, .int .u32 0] := rfl
  have hst := run_storeCells_cells (P := P) g o (Builtin.zeroCells (letV ⟨0, 0, 0⟩).cells n).toList 0 w
    (by intro j hj; rw [zc_len, hz] at hj; rw [hR.cell (i := o + 0 + j) (by simp at hj; omega)]; rfl) (fun j _ => hR.frozen _)
    (by
      intro v hv
      obtain ⟨i, hi, rfl⟩ := zc_mem hv (by decide)
      rw [hz] at hi ⊢
      match i, hi with
      | 0, _ => rfl
      | 1, _ => rfl
      | 2, _ => rfl)
  simp only [Nat.add_zero] at hst
  obtain ⟨h1, h2⟩ := setCells_row (Builtin.zeroCells (letV ⟨0, 0, 0⟩).cells n).toList o w f hR
  refine ⟨_, fun ty => ?_, h1, h2⟩
  obtain ⟨m, rfl⟩ : ∃ m, n = m + 1 := ⟨n - 1, by omega⟩
  simp [Builtin.clear_, run_underlying ht, hv, hst]
end Go.Cg
namespace Go.Proofs.YtcnjgfadihimiaaDoor
open Go.RowKit Go.Cg Go.Shelf Go.Maps

set_option maxRecDepth 100000 in
set_option maxHeartbeats 4000000 in
theorem idxF_any (gk : Nat) (cb : Array Value) (eg : ∀ args w, (callFunc gk args).run Tryd.prog w = .ok (.enter gk args) w) (q : Letter → Bool) (g : Nat) (L : List Letter) (c : Nat) (h64 : L.length ≤ 64) (w : World) (hL : LetRow w g L)
    (HC : ∀ i, i < L.length → ∀ W, Ext w W → Calls Tryd.prog gk (#[.agg #[.int .i32 (la L i).rune, .int .u32 ((la L i).plus : Int), .int .u32 ((la L i).minus : Int)]] ++ cb) W fun e W' => e = .returned (.bool (q (la L i))) ∧ Ext W W') :
    Calls Tryd.prog 55 #[.slice (some ⟨g, 0, none⟩) L.length c, .func (.func gk) #[] cb] w fun e w' => e = .returned (.int .i64 (idxL q L)) ∧ Ext w w' := by
  have HCH := Lib.hid HC
  have HAT := Lib.hid (fun i hi h0 h1 => idxL_at (q := q) (L := L) (i := i) hi h0 h1)
  have HNO := Lib.hid (fun h0 => idxL_none (q := q) (L := L) h0)
  obtain ⟨R, hR⟩ : ∃ R, idxL q L = R := ⟨_, rfl⟩
  rw [hR] at HAT HNO ⊢
  clear HC hR
  go_enter Tryd.func55, Tryd.ntmps55
  go_wp2_with fail
  go_loopw [5, 8] (fun _ i wr => ∃ k : Nat, k ≤ L.length ∧ i = .int .i64 k ∧ Ext w wr ∧ Hid (∀ j, j < k → q (la L j) = false)) (fun _ i _ => L.length - (intOf i).toNat)
  case atStart => exact ⟨0, Nat.zero_le _, rfl, Ext.refl _, fun j hj => by omega⟩
  case round =>
    obtain ⟨k, hk, rfl, hx, HZ⟩ := hrel
    by_cases hlt : k < L.length
    · obtain ⟨c0, c1, c2⟩ := (hL.ext hx).cell k hlt
      have lg := (hL.ext hx).lt
      have hcall := HCH.out k hlt wr hx
      cases hB : q (la L k)
      · rw [hB] at hcall
        have HO := Lib.hid hcall
        have HB := Lib.hid hB
        clear hcall hB
        go_wp2_with (go_at_fn gk; refine HO.out.mono ?_; rintro e w5 ⟨rfl, hx5⟩)
        exact ⟨⟨k + 1, by omega, by go_num, hx.trans hx5, upto_succ HZ.out HB.out⟩, by simp [intOf]; omega⟩
      · rw [hB] at hcall
        have HO := Lib.hid hcall
        have HE := Lib.hid (HAT.out k hlt HZ.out hB)
        clear hcall hB
        go_wp2_with (go_at_fn gk; refine HO.out.mono ?_; rintro e w5 ⟨rfl, hx5⟩)
        go_ret
        exact ⟨by rw [HE.out]; rfl, hx.trans hx5⟩
    · have e : k = L.length := by omega
      subst e
      have HE := Lib.hid (HNO.out HZ.out)
      go_wp2_with fail
      go_ret
      exact ⟨by rw [HE.out]; rfl, hx⟩

set_option maxRecDepth 100000 in
set_option maxHeartbeats 4000000 in
theorem conF_any (gk : Nat) (cb : Array Value) (eg : ∀ args w, (callFunc gk args).run Tryd.prog w = .ok (.enter gk args) w) (q : Letter → Bool) (g : Nat) (L : List Letter) (c : Nat) (h64 : L.length ≤ 64) (w : World) (hL : LetRow w g L)
    (HC : ∀ i, i < L.length → ∀ W, Ext w W → Calls Tryd.prog gk (#[.agg #[.int .i32 (la L i).rune, .int .u32 ((la L i).plus : Int), .int .u32 ((la L i).minus : Int)]] ++ cb) W fun e W' => e = .returned (.bool (q (la L i))) ∧ Ext W W') :
    Calls Tryd.prog 35 #[.slice (some ⟨g, 0, none⟩) L.length c, .func (.func gk) #[] cb] w fun e w' => e = .returned (.bool (decide (0 ≤ idxL q L))) ∧ Ext w w' := by
  have HI := Lib.hid (idxF_any gk cb eg q g L c h64 w hL HC)
  have hz : ∀ z : Int, decide (0 ≤ z) = decide (0 ≤ z) := fun _ => rfl
  obtain ⟨R, hR⟩ : ∃ R, idxL q L = R := ⟨_, rfl⟩
  rw [hR] at HI ⊢
  clear HC hR hz
  go_enter Tryd.func35, Tryd.ntmps35
  go_wp2_with (go_at_call 55; refine HI.out.mono ?_; rintro e w' ⟨rfl, hx⟩)
  go_ret
  exact ⟨rfl, hx⟩

set_option maxRecDepth 100000 in
set_option maxHeartbeats 4000000 in
theorem delF_any (gk : Nat) (cb : Array Value) (eg : ∀ args w, (callFunc gk args).run Tryd.prog w = .ok (.enter gk args) w) (q : Letter → Bool) (g : Nat) (L : List Letter) (h64 : L.length ≤ 64) (w : World) (hL : LetRow w g L) (hR : w.rowIs g 52 (L.length * 3) (Alpha.letCell ⟨[], L⟩))
    (HC : ∀ i, i < L.length → ∀ W, w.grownBy W (some g) → Calls Tryd.prog gk (#[.agg #[.int .i32 (la L i).rune, .int .u32 ((la L i).plus : Int), .int .u32 ((la L i).minus : Int)]] ++ cb) W fun e W' => e = .returned (.bool (q (la L i))) ∧ Ext W W') :
    Calls Tryd.prog 33 #[.slice (some ⟨g, 0, none⟩) L.length L.length, .func (.func gk) #[] cb] w fun e w' => e = .returned (.slice (some ⟨g, 0, none⟩) (L.filter fun l => !q l).length L.length) ∧ (∃ f, w'.rowIs g 52 (L.length * 3) f ∧ ∀ t, t < (L.filter fun l => !q l).length * 3 → f t = Alpha.letCell ⟨[], L.filter fun l => !q l⟩ t) ∧ w.grownBy w' (some g) := by
  have HI := Lib.hid (idxF_any gk cb eg q g L L.length h64 w hL (fun i hi W hx => HC i hi W (gb_ext (gb_refl _ _) hx)))
  have HCH := Lib.hid HC
  have hke := kpt_end q L
  rcases idxL_cases q L with ⟨hi, hall⟩ | ⟨k0, hi, hk0, h1, h0⟩
  · rw [hi] at HI
    have e : (L.filter fun l => !q l) = L := by rw [← hke, kpt_all (Nat.le_refl _) hall]; simp
    rw [e]
    have HR := Lib.hid hR
    clear HC hR hke hi hall e
    go_enter Tryd.func33, Tryd.ntmps33
    go_wp2_with (go_at_call 55; refine HI.out.mono ?_; rintro e w1 ⟨rfl, hx⟩)
    go_ret
    exact ⟨rfl, ⟨_, rowX HR.out hx, fun t _ => rfl⟩, gb_ext (gb_refl _ _) hx⟩
  · rw [hi] at HI
    have HS := Lib.hid (KeptI.start hk0 h0 h1)
    have HR := Lib.hid hR
    have hne : ((k0 : Int) == -1) = false := beq_eq_false_iff_ne.2 (by omega)
    have HCL := Lib.hid (fun W f i (hRW : World.rowIs W g 52 (L.length * 3) f) (hi : i < L.length) => clear_let (P := Tryd.prog) 24 52 Tryd.underlying24 zeroLe W g 52 (L.length * 3) f hRW (i * 3) (L.length - i) (L.length - i) (by omega) (by omega))
    have HKE := Lib.hid (show ∀ i f, KeptI q L i L.length f → (L.filter fun l => !q l).length = i ∧ ∀ t, t < (L.filter fun l => !q l).length * 3 → f t = Alpha.letCell ⟨[], L.filter fun l => !q l⟩ t from fun i f hI => by
      have a := hI.1; have b := hI.2.1
      rw [hke] at a b
      exact ⟨a.symm, fun t ht => b t (by rw [a]; exact ht)⟩)
    have hkl : (kpt q L L.length).length < L.length := by
      rw [hke]
      refine Nat.lt_of_le_of_ne (List.length_filter_le _ _) fun e => ?_
      have := List.length_filter_eq_length_iff.1 e _ (List.getElem_mem hk0)
      rw [← la_eq hk0, h1] at this; cases this
    have HKL := Lib.hid hkl
    clear HC hR hke hi h0 h1 hkl
    obtain ⟨M, hM⟩ : ∃ M, (L.filter fun l => !q l) = M := ⟨_, rfl⟩
    rw [hM] at HKE ⊢
    clear hM
    go_enter Tryd.func33, Tryd.ntmps33
    go_wp2_with (go_at_call 55; refine HI.out.mono ?_; rintro e w1 ⟨rfl, hx⟩)
    go_loopw [5, 6, 7] (fun s5 s6 _ wr => ∃ (i j : Nat) (f : Nat → Value), s5 = .int .i64 i ∧ s6 = .int .i64 j ∧ j ≤ L.length ∧ wr.rowIs g 52 (L.length * 3) f ∧ w.grownBy wr (some g) ∧ Hid (KeptI q L i j f)) (fun _ j _ _ => L.length - (intOf j).toNat)
    case atStart => exact ⟨k0, k0 + 1, _, rfl, by go_num, by omega, rowX HR.out hx, gb_ext (gb_refl _ _) hx, HS.out⟩
    case round =>
      obtain ⟨i, j, f, rfl, rfl, hj, hRw, hgw, HK⟩ := hrel
      by_cases hlt : j < L.length
      · obtain ⟨a0, a1, a2⟩ := HK.out.at_ hlt
        have hij := HK.out.le
        have c0 := hRw.cell (i := j * 3) (by omega)
        have c1 := hRw.cell (i := j * 3 + 1) (by omega)
        have c2 := hRw.cell (i := j * 3 + 2) (by omega)
        rw [a0] at c0
        rw [a1] at c1
        rw [a2] at c2
        have lg := hRw.lt
        have hgx := gb_ext hgw ((Ext.refl wr).alloc (.cells #[.int .i32 (la L j).rune, .int .u32 ((la L j).plus : Int), .int .u32 ((la L j).minus : Int)] 52))
        have hcall := HCH.out j hlt _ hgx
        have hRx := hRw.alloc (.cells #[.int .i32 (la L j).rune, .int .u32 ((la L j).plus : Int), .int .u32 ((la L j).minus : Int)] 52)
        clear a0 a1 a2
        cases hB : q (la L j)
        · rw [hB] at hcall
          have HO := Lib.hid hcall
          have HB := Lib.hid hB
          clear hcall hB
          go_wp2_with (go_at_fn gk; refine HO.out.mono ?_; rintro e w5 ⟨rfl, hx5⟩; have x0 := hx5.cell0 0; have x1 := hx5.cell0 1; have x2 := hx5.cell0 2; have lx := hx5.lt0; simp only [List.getElem?_toArray, List.getElem?_cons_zero, List.getElem?_cons_succ] at x0 x1 x2; have hR5 := rowX hRx hx5; have r0 := hR5.cell (i := i * 3) (by omega); have r1 := hR5.cell (i := i * 3 + 1) (by omega); have r2 := hR5.cell (i := i * 3 + 2) (by omega); have f0 := hR5.frozen (i * 3); have f1 := hR5.frozen (i * 3 + 1); have f2 := hR5.frozen (i * 3 + 2); have lg5 := hR5.lt)
          exact ⟨⟨i + 1, j + 1, _, by go_num, by go_num, by omega, ((hR5.set (i * 3) _).set (i * 3 + 1) _).set (i * 3 + 2) _, gb_set (gb_set (gb_set (gb_ext hgx hx5) _ _) _ _) _ _, HK.out.keep hlt HB.out⟩, by simp [intOf]; omega⟩
        · rw [hB] at hcall
          have HO := Lib.hid hcall
          have HB := Lib.hid hB
          clear hcall hB
          go_wp2_with (go_at_fn gk; refine HO.out.mono ?_; rintro e w5 ⟨rfl, hx5⟩)
          exact ⟨⟨i, j + 1, _, rfl, by go_num, by omega, rowX hRx hx5, gb_ext hgx hx5, HK.out.skip hlt HB.out⟩, by simp [intOf]; omega⟩
      · have e : j = L.length := by omega
        subst e
        have hil : i < L.length := by rw [HK.out.1]; exact HKL.out
        obtain ⟨W9, hcl, ⟨f9, hR9, hf9⟩, hg9⟩ := HCL.out wr f i hRw hil
        have H9 := Lib.hid hf9
        clear hf9
        go_wp2_with fail
        go_ret
        obtain ⟨e1, e2⟩ := HKE.out i f HK.out
        refine ⟨by rw [e1]; rfl, ⟨f9, hR9, fun t ht => (H9.out t (by rw [e1] at ht; exact ht)).trans (e2 t ht)⟩, gb_trans hgw hg9⟩

end Go.Proofs.YtcnjgfadihimiaaDoor

namespace Go.Cg
open Go.RowKit Go.Lib
/-- those of a class -/
def clsL (L : List Letter) (p : Nat) : List Letter := L.filter fun l => !(!ofB l p)
/-- are all of a class alike in a mask? -/
def keepL (L : List Letter) (p k : Nat) : Bool := !(decide (0 ≤ idxL (fun x => !alikeB x (la (clsL L p) 0) k) (clsL L p)))
def keepsB (A : Alpha) (s : ByteArray) (p k : Nat) : Bool := if signE A s [p, k] = 0 then keepL (sgn A s) p k else false
theorem wf_mem {M : List Letter} (h : ∀ x ∈ M, x.wf) : ∀ i, i < M.length → (la M i).wf := fun i hi => by rw [la_eq hi]; exact h _ (List.getElem_mem hi)
theorem clsL_wf {L : List Letter} (h : ∀ i, i < L.length → (la L i).wf) (p : Nat) : ∀ i, i < (clsL L p).length → (la (clsL L p) i).wf :=
  wf_mem fun x hx => by
    obtain ⟨j, hj, e⟩ := List.getElem_of_mem (List.mem_filter.1 hx).1
    have := h j hj
    rw [la_eq hj, e] at this; exact this
theorem clsL_len (L : List Letter) (p : Nat) : (clsL L p).length ≤ L.length := List.length_filter_le _ _
theorem LetRow.of_head {w : World} {g N : Nat} {T : TypeId} {f : Nat → Value} {M : List Letter} (h : w.rowIs g T N f) (hn : M.length * 3 ≤ N) (hf : ∀ t, t < M.length * 3 → f t = Alpha.letCell ⟨[], M⟩ t) (hw : ∀ i, i < M.length → (la M i).wf) : LetRow w g M :=
  ⟨h.lt, fun i hi => by
    obtain ⟨a, b, c⟩ := letCell_la M i
    exact ⟨(h.cell (i := i * 3) (by omega)).trans (by rw [hf _ (by omega), a]), (h.cell (i := i * 3 + 1) (by omega)).trans (by rw [hf _ (by omega), b]), (h.cell (i := i * 3 + 2) (by omega)).trans (by rw [hf _ (by omega), c])⟩, hw⟩
end Go.Cg
namespace Go.Proofs.YtcnjgfadihimiaaDoor
open Go.RowKit Go.Cg Go.Shelf Go.Maps

set_option maxRecDepth 100000 in
set_option maxHeartbeats 1000000 in
theorem keep1_any (l : Letter) (hl : l.wf) (p : Nat) (hp : p < 4294967296) (B : Nat) (W : World) (hc : W.cell? ⟨B, 0, none⟩ = some (.int .u32 (p : Int))) (hB : B < W.heap.size) :
    Calls Tryd.prog 34 (#[.agg #[.int .i32 l.rune, .int .u32 (l.plus : Int), .int .u32 (l.minus : Int)]] ++ #[.pointer (some ⟨B, 0, none⟩)]) W fun e W' => e = .returned (.bool (!ofB l p)) ∧ Ext W W' := by
  have hof := fun W' => (show Calls Tryd.prog 30 #[.agg #[.int .i32 l.rune, .int .u32 (l.plus : Int), .int .u32 (l.minus : Int)], .int .u32 p] W' fun e W'' => e = .returned (.bool (ofB l p)) ∧ Ext W' W'' from hof_any _ _ _ p hl.2.2.1 hp W')
  have HO := Lib.hid hof
  obtain ⟨b, hb⟩ : ∃ b, ofB l p = b := ⟨_, rfl⟩
  rw [hb] at HO ⊢
  clear hof hb
  have hne : B ≠ W.heap.size := by omega
  show Calls Tryd.prog 34 #[.agg #[.int .i32 l.rune, .int .u32 (l.plus : Int), .int .u32 (l.minus : Int)], .pointer (some ⟨B, 0, none⟩)] W _
  go_enter Tryd.func34, Tryd.ntmps34
  go_wp2_with (go_at_call 30; refine (HO.out _).mono ?_; rintro e w5 ⟨rfl, hx5⟩)
  go_ret
  exact ⟨rfl, ((Ext.refl _).alloc _).trans hx5⟩

set_option maxRecDepth 100000 in
set_option maxHeartbeats 1000000 in
theorem keep2_any (x y : Letter) (hx : x.wf) (hy : y.wf) (k : Nat) (hk : k < 4294967296) (Bl Bk g m c : Nat) (hm : 0 < m) (W : World) (hc : W.cell? ⟨Bl, 0, none⟩ = some (.slice (some ⟨g, 0, none⟩) m c)) (hck : W.cell? ⟨Bk, 0, none⟩ = some (.int .u32 (k : Int)))
    (y0 : W.cell? ⟨g, 0, none⟩ = some (.int .i32 y.rune)) (y1 : W.cell? ⟨g, 1, none⟩ = some (.int .u32 (y.plus : Int))) (y2 : W.cell? ⟨g, 2, none⟩ = some (.int .u32 (y.minus : Int))) :
    Calls Tryd.prog 36 (#[.agg #[.int .i32 x.rune, .int .u32 (x.plus : Int), .int .u32 (x.minus : Int)]] ++ #[.pointer (some ⟨Bl, 0, none⟩), .pointer (some ⟨Bk, 0, none⟩)]) W fun e W' => e = .returned (.bool (!alikeB x y k)) ∧ Ext W W' := by
  have hal := fun W' => (show Calls Tryd.prog 37 #[.agg #[.int .i32 x.rune, .int .u32 (x.plus : Int), .int .u32 (x.minus : Int)], .agg #[.int .i32 y.rune, .int .u32 (y.plus : Int), .int .u32 (y.minus : Int)], .int .u32 k] W' fun e W'' => e = .returned (.bool (alikeB x y k)) ∧ Ext W' W'' from
    alike_any _ _ _ _ _ _ k hx.2.2.1 hx.2.2.2 hy.2.2.1 hy.2.2.2 hk W')
  have HO := Lib.hid hal
  obtain ⟨b, hb⟩ : ∃ b, alikeB x y k = b := ⟨_, rfl⟩
  rw [hb] at HO ⊢
  clear hal hb
  have hE : Ext W (W.alloc (.cells #[.int .i32 x.rune, .int .u32 (x.plus : Int), .int .u32 (x.minus : Int)] 52)) := (Ext.refl _).alloc _
  have hlt := fun b o v (h : W.cell? ⟨b, o, none⟩ = some v) => World.block_lt_of_cell? W ⟨b, o, none⟩ h
  have e0 := hE.facts.1 Bl 0 (hlt _ _ _ hc)
  have e1 := hE.facts.1 Bk 0 (hlt _ _ _ hck)
  have e2 := hE.facts.1 g 0 (hlt _ _ _ y0)
  have e3 := hE.facts.1 g 1 (hlt _ _ _ y1)
  have e4 := hE.facts.1 g 2 (hlt _ _ _ y2)
  rw [hc] at e0
  rw [hck] at e1
  rw [y0] at e2
  rw [y1] at e3
  rw [y2] at e4
  have x0 := (Ext.refl (W.alloc (.cells #[.int .i32 x.rune, .int .u32 (x.plus : Int), .int .u32 (x.minus : Int)] 52))).cell0 0
  have x1 := (Ext.refl (W.alloc (.cells #[.int .i32 x.rune, .int .u32 (x.plus : Int), .int .u32 (x.minus : Int)] 52))).cell0 1
  have x2 := (Ext.refl (W.alloc (.cells #[.int .i32 x.rune, .int .u32 (x.plus : Int), .int .u32 (x.minus : Int)] 52))).cell0 2
  simp only [List.getElem?_toArray, List.getElem?_cons_zero, List.getElem?_cons_succ] at x0 x1 x2
  have hmz : (0 : Int) < (m : Int) := by omega
  show Calls Tryd.prog 36 #[.agg #[.int .i32 x.rune, .int .u32 (x.plus : Int), .int .u32 (x.minus : Int)], .pointer (some ⟨Bl, 0, none⟩), .pointer (some ⟨Bk, 0, none⟩)] W _
  clear hc hck y0 y1 y2 hlt
  go_enter Tryd.func36, Tryd.ntmps36
  go_wp2_with fail
  obtain ⟨W0, hW0⟩ : ∃ W0, W.alloc (.cells #[.int .i32 x.rune, .int .u32 (x.plus : Int), .int .u32 (x.minus : Int)] 52) = W0 := ⟨_, rfl⟩
  rw [hW0] at hE e0 e1 e2 e3 e4 x0 x1 x2 ⊢
  clear hW0
  (refine wp_region_ext (by kernel_rfl) (by kernel_rfl) ?_; intro ι hι g hg; have q_e0 := hg.cell e0; have q_e1 := hg.cell e1; have q_e2 := hg.cell e2; have q_e3 := hg.cell e3; have q_e4 := hg.cell e4; have q_x0 := hg.cell x0; have q_x1 := hg.cell x1; have q_x2 := hg.cell x2; clear e0 e1 e2 e3 e4 x0 x1 x2; (repeat (go_big_quiet_step ((go_at_call 37; exact hg.call (HO.out _))))); refine wpQuiet_nil ?_; rintro w8 ⟨i2, rfl⟩; have hq := hg.ext i2; generalize g i2 = w8 at hq ⊢; clear q_e0 q_e1 q_e2 q_e3 q_e4 q_x0 q_x1 q_x2 i2 hg g hι ι)
  go_wp2_with fail
  go_ret
  exact ⟨rfl, hE.trans hq⟩

set_option maxRecDepth 100000 in
set_option maxHeartbeats 4000000 in
theorem keeps_any (fp lp : Option Addr) (fc lc : Nat) (A : Alpha) (s : ByteArray) (hs : s.size ≤ 140737488351232) (p k : Nat) (hp : p < 4294967296) (hk : k < 4294967296) (w : World) (hA : AlphaAt w fp lp A) (hTb : Tabs w) :
    Calls Tryd.prog 15 #[.agg #[.slice fp A.feats.length fc, .slice lp A.lets.length lc], .string s, .int .u32 p, .int .u32 k] w fun e w' => e = .returned (.tuple #[.bool (keepsB A s p k), .int .i64 (signE A s [p, k])]) ∧ Ext w w' := by
  have HSG := Lib.hid (fun W b (hW : Ext w W) (hb : W.heap.size = b) => (by
    subst hb
    exact signs_any fp lp (some ⟨W.heap.size, 0, none⟩) fc lc 2 A s hs [p, k] (by simp) (W.alloc (.cells #[.int .u32 (p : Int), .int .u32 (k : Int)] 32)) (hA.mono (hW.alloc _)) (masks_two hp hk) (hTb.ext (hW.alloc _)) :
      Calls Tryd.prog 29 #[.agg #[.slice fp A.feats.length fc, .slice lp A.lets.length lc], .string s, .slice (some ⟨b, 0, none⟩) 2 2] (W.alloc (.cells #[.int .u32 (p : Int), .int .u32 (k : Int)] 32)) _))
  have bP := (Boxed.new (w.alloc (.cells #[.slice fp A.feats.length fc, .slice lp A.lets.length lc] 26)) 32 (.int .u32 (p : Int))).alloc (.cells #[.int .u32 (k : Int)] 32)
  have bK := Boxed.new ((w.alloc (.cells #[.slice fp A.feats.length fc, .slice lp A.lets.length lc] 26)).alloc (.cells #[.int .u32 (p : Int)] 32)) 32 (.int .u32 (k : Int))
  have hx5 : Ext (w.alloc (.cells #[.slice fp A.feats.length fc, .slice lp A.lets.length lc] 26)) (((w.alloc (.cells #[.slice fp A.feats.length fc, .slice lp A.lets.length lc] 26)).alloc (.cells #[.int .u32 (p : Int)] 32)).alloc (.cells #[.int .u32 (k : Int)] 32)) := ((Ext.refl _).alloc _).alloc _
  have hsz : (((w.alloc (.cells #[.slice fp A.feats.length fc, .slice lp A.lets.length lc] 26)).alloc (.cells #[.int .u32 (p : Int)] 32)).alloc (.cells #[.int .u32 (k : Int)] 32)).heap.size = w.heap.size + 1 + 1 + 1 := by simp only [World.size_alloc]
  simp only [World.size_alloc] at bP bK
  obtain ⟨W5, hW5⟩ : ∃ W5, ((w.alloc (.cells #[.slice fp A.feats.length fc, .slice lp A.lets.length lc] 26)).alloc (.cells #[.int .u32 (p : Int)] 32)).alloc (.cells #[.int .u32 (k : Int)] 32) = W5 := ⟨_, rfl⟩
  rw [hW5] at bP bK hx5 hsz
  obtain ⟨d0, d1, l0⟩ := (⟨hx5.cell0 0, hx5.cell0 1, hx5.lt0⟩ : W5.cell? ⟨w.heap.size, 0, none⟩ = some (.slice fp A.feats.length fc) ∧ W5.cell? ⟨w.heap.size, 1, none⟩ = some (.slice lp A.lets.length lc) ∧ w.heap.size < W5.heap.size)
  have hx0 : Ext w W5 := hx5.box
  have hsg := HSG.out W5 _ hx0 hsz
  have cP := bP.cell
  have cK := bK.cell
  clear HSG
  by_cases h0 : signE A s [p, k] = 0
  · rw [h0]
    have hl0 := (signE_zero h0).1
    have h64 := sgn_len hl0
    have hwf := sgn_wf hA hl0
    rw [show keepsB A s p k = keepL (sgn A s) p k from if_pos h0]
    have HSG := Lib.hid (hsg.mono fun e w' h => (⟨h.1 h0, h.2.2⟩ : _ ∧ Ext _ w'))
    obtain ⟨L, hL⟩ : ∃ L, sgn A s = L := ⟨_, rfl⟩
    rw [hL] at h64 hwf HSG ⊢
    have hcw := clsL_wf hwf p
    have hcl := clsL_len L p
    have hkl : keepL L p k = !(decide (0 ≤ idxL (fun x => !alikeB x (la (clsL L p) 0) k) (clsL L p))) := rfl
    have hdel := fun g W => delF_any 34 #[.pointer (some ⟨w.heap.size + 1, 0, none⟩)] (enters_of Tryd.func34 (by kernel_rfl) rfl) (fun l => !ofB l p) g L h64 W
    rw [hkl]
    obtain ⟨M, hM⟩ : ∃ M, clsL L p = M := ⟨_, rfl⟩
    have hM2 : (L.filter fun l => !(!ofB l p)) = M := hM
    simp only [hM2] at hdel
    rw [hM] at hcw hcl ⊢
    have HDEL := Lib.hid hdel
    have HWF := Lib.hid hwf
    have HCW := Lib.hid hcw
    clear hsg h0 hl0 hwf hcw hL hkl hM hM2 hdel
    obtain ⟨R, hR⟩ : ∃ R, (decide (0 ≤ idxL (fun x => !alikeB x (la M 0) k) M)) = R := ⟨_, rfl⟩
    have HR := Lib.hid hR
    rw [hR]
    clear hR
    go_enter Tryd.func15, Tryd.ntmps15
    go_wp2_with fail
    refine HSG.out.mono ?_
    rintro e w1 ⟨⟨g, rfl, hgw, hrow⟩, hx1⟩
    have hLR := LetRow.of_row hrow HWF.out
    have h51 : Ext W5 w1 := ((Ext.refl W5).alloc _).trans hx1
    have bP1 := (boxX bP h51).alloc (.cells #[.slice (some ⟨g, 0, none⟩) L.length L.length] 24)
    have bK1 := (boxX bK h51).alloc (.cells #[.slice (some ⟨g, 0, none⟩) L.length L.length] 24)
    have bL := Boxed.new w1 24 (.slice (some ⟨g, 0, none⟩) L.length L.length)
    have hrow2 := hrow.alloc (.cells #[.slice (some ⟨g, 0, none⟩) L.length L.length] 24)
    have hL2 := hLR.ext ((Ext.refl w1).alloc (.cells #[.slice (some ⟨g, 0, none⟩) L.length L.length] 24))
    have hw1 := h51.le
    have hw5 : w.heap.size + 1 + 1 < W5.heap.size := by omega
    have hgl := hLR.lt
    have hw2 : Ext w (w1.alloc (.cells #[.slice (some ⟨g, 0, none⟩) L.length L.length] 24)) := (hx0.trans h51).alloc _
    have hg5 : W5.heap.size ≤ g := by rw [size_alloc] at hgw; omega
    clear hgw hrow hLR d0 d1 l0 cP cK
    have hcl1 := fun i (hi : i < L.length) W (hg : (w1.alloc (.cells #[.slice (some ⟨g, 0, none⟩) L.length L.length] 24)).grownBy W (some g)) => keep1_any (la L i) (HWF.out i hi) p hp (w.heap.size + 1) W (gb_box hg bP1 (by simp; omega)).cell (gb_box hg bP1 (by simp; omega)).lt
    have HD := Lib.hid (HDEL.out g _ hL2 hrow2 hcl1)
    have cL := bL.cell
    clear hcl1 HDEL hL2 hrow2
    go_wp2_with (go_at_call 33; refine HD.out.mono ?_; rintro e w3 ⟨rfl, ⟨f, hR3, hf3⟩, hg3⟩; have bL3 := gb_box hg3 bL (by simp; omega); have bP3 := gb_box hg3 bP1 (by simp; omega); have bK3 := gb_box hg3 bK1 (by simp; omega); have cL := bL3.cell; have fL := bL3.frozen; have lL := bL3.lt; have hw3 := hw2.grown hg3 (fun j hj => by cases hj; omega); have HF3 := Lib.hid hf3; clear hf3)
    have bL4 := bL3.set (.slice (some ⟨g, 0, none⟩) M.length L.length)
    have bK4 := bK3.other (B' := w1.heap.size) (by omega) (.slice (some ⟨g, 0, none⟩) M.length L.length)
    have hR4 := hR3.setOther (a := ⟨w1.heap.size, 0, none⟩) (by simp; omega) (.slice (some ⟨g, 0, none⟩) M.length L.length)
    have hL4 := LetRow.of_head hR4 (by omega) HF3.out HCW.out
    have hw4 := hw3.setCell (p := ⟨w1.heap.size, 0, none⟩) (by simp; omega) (.slice (some ⟨g, 0, none⟩) M.length L.length)
    obtain ⟨W4, hW4⟩ : ∃ W4, w3.setCell ⟨w1.heap.size, 0, none⟩ (.slice (some ⟨g, 0, none⟩) M.length L.length) = W4 := ⟨_, rfl⟩
    rw [hW4] at bL4 bK4 hR4 hL4 hw4 ⊢
    clear hW4 bL3 bP3 bK3 cL fL lL hR3 HD hw3 hg3
    have hcl2 := fun i (hi : i < M.length) W (hx : Ext W4 W) => (by
      obtain ⟨a0, a1, a2⟩ := (hL4.ext hx).cell 0 (by omega)
      exact keep2_any (la M i) (la M 0) (HCW.out i hi) (HCW.out 0 (by omega)) k hk w1.heap.size (w.heap.size + 1 + 1) g M.length L.length (by omega) W (boxX bL4 hx).cell (boxX bK4 hx).cell a0 a1 a2 :
      Calls Tryd.prog 36 (#[.agg #[.int .i32 (la M i).rune, .int .u32 ((la M i).plus : Int), .int .u32 ((la M i).minus : Int)]] ++ #[.pointer (some ⟨w1.heap.size, 0, none⟩), .pointer (some ⟨w.heap.size + 1 + 1, 0, none⟩)]) W fun e W' => e = .returned (.bool (!alikeB (la M i) (la M 0) k)) ∧ Ext W W')
    have hcf := conF_any 36 #[.pointer (some ⟨w1.heap.size, 0, none⟩), .pointer (some ⟨w.heap.size + 1 + 1, 0, none⟩)] (enters_of Tryd.func36 (by kernel_rfl) rfl) (fun x => !alikeB x (la M 0) k) g M L.length (by omega) W4 hL4 hcl2
    rw [HR.out] at hcf
    have HCF := Lib.hid hcf
    have cL := bL4.cell
    clear hcl2 hcf
    go_wp2_with (go_at_call 35; refine HCF.out.mono ?_; rintro e w5 ⟨rfl, hx6⟩)
    go_ret2
    exact ⟨rfl, hw4.trans hx6⟩
  · rw [show keepsB A s p k = false from if_neg h0]
    have HSG := Lib.hid (hsg.mono fun e w' h => (⟨h.2.1 h0, h.2.2⟩ : _ ∧ Ext _ w'))
    have gE : (signE A s [p, k] != 0) = true := by rw [bne_iff_ne]; exact h0
    clear hsg h0
    go_enter Tryd.func15, Tryd.ntmps15
    go_wp2_with fail
    refine HSG.out.mono ?_
    rintro e w1 ⟨rfl, hx1⟩
    go_wp2_with fail
    go_ret2
    exact ⟨rfl, ((hx0.alloc _).trans hx1).alloc _⟩

end Go.Proofs.YtcnjgfadihimiaaDoor

namespace Go.Cg
open Go.RowKit Go.Lib Go.Maps
def mkey (l : Letter) (k : Nat) : Nat × Nat := (l.plus &&& k, l.minus &&& k)
def hdL (q : List Letter) : Letter := q.headD default
/-- the part with a key -/
def findP (k : Nat) (ps : List (List Letter)) (key : Nat × Nat) : Option Nat := ps.findIdx? fun q => decide (mkey (hdL q) k = key)
/-- one letter more, in its part -/
def addP (k : Nat) (ps : List (List Letter)) (l : Letter) : List (List Letter) := match findP k ps (mkey l k) with
  | some i => ps.set i (ps.getD i [] ++ [l])
  | none => ps ++ [[l]]
/-- the parts of the first j letters -/
def setsTo (A : Alpha) (p k : Nat) : Nat → List (List Letter)
  | 0 => []
  | j + 1 => if ofB (A.at_ j) p = true then addP k (setsTo A p k j) (A.at_ j) else setsTo A p k j
def runesP (ps : List (List Letter)) : List (List Int) := ps.map fun q => q.map Letter.rune
theorem runesP_len (ps : List (List Letter)) : (runesP ps).length = ps.length := by simp [runesP]
theorem findP_map (k : Nat) (ps : List (List Letter)) (key : Nat × Nat) : findP k ps key = (ps.map hdL).findIdx? fun l => decide (mkey l k = key) := by
  unfold findP; rw [List.findIdx?_map]; rfl
theorem findP_lt {k : Nat} {ps : List (List Letter)} {key : Nat × Nat} {i : Nat} (h : findP k ps key = some i) : i < ps.length := (List.findIdx?_eq_some_iff_getElem.1 h).1
theorem hd_app {x : List Letter} (hx : x ≠ []) (l : Letter) : hdL (x ++ [l]) = hdL x := by
  cases x with
  | nil => exact absurd rfl hx
  | cons a r => rfl
theorem findP_add {k : Nat} {ps : List (List Letter)} (hne : ∀ q ∈ ps, q ≠ []) (l : Letter) (key : Nat × Nat) :
    findP k (addP k ps l) key = if key = mkey l k then some ((findP k ps (mkey l k)).getD ps.length) else findP k ps key := by
  unfold addP
  cases hf : findP k ps (mkey l k) with
  | some i =>
    have hi := findP_lt hf
    have e : (ps.set i (ps.getD i [] ++ [l])).map hdL = ps.map hdL := by
      rw [List.map_set, hd_app (by rw [List.getD_eq_getElem?_getD, List.getElem?_eq_getElem hi]; exact hne _ (List.getElem_mem hi)), List.getD_eq_getElem?_getD, List.getElem?_eq_getElem hi]
      apply List.ext_getElem (by simp)
      intro j h1 h2
      rw [List.getElem_set]
      split
      · rename_i e; subst e; simp
      · rfl
    show findP k (ps.set i (ps.getD i [] ++ [l])) key = _
    rw [findP_map, e, ← findP_map]
    by_cases hk : key = mkey l k
    · rw [if_pos hk, hk, hf]; rfl
    · rw [if_neg hk]
  | none =>
    show findP k (ps ++ [[l]]) key = _
    unfold findP
    rw [List.findIdx?_append]
    by_cases hk : key = mkey l k
    · rw [if_pos hk, hk]
      have h2 : List.findIdx? (fun q => decide (mkey (hdL q) k = mkey l k)) ps = none := hf
      rw [h2]
      have h3 : mkey (hdL [l]) k = mkey l k := rfl
      simp [List.findIdx?_cons, h3]
    · rw [if_neg hk]
      have h3 : mkey (hdL [l]) k = mkey l k := rfl
      have h4 : ¬ mkey l k = key := fun e => hk e.symm
      simp [List.findIdx?_cons, h3, h4]
theorem setsTo_good (A : Alpha) (p k : Nat) : ∀ j, (∀ q ∈ setsTo A p k j, q ≠ [] ∧ q.length ≤ j) ∧ (setsTo A p k j).length ≤ j
  | 0 => ⟨fun q hq => (by cases hq), Nat.le_refl _⟩
  | j + 1 => by
    obtain ⟨h1, h2⟩ := setsTo_good A p k j
    unfold setsTo
    split
    · unfold addP
      split
      · rename_i i hi
        have hlt := findP_lt hi
        refine ⟨fun q hq => ?_, by simp; omega⟩
        rcases List.mem_or_eq_of_mem_set hq with h | h
        · exact ⟨(h1 q h).1, Nat.le_succ_of_le (h1 q h).2⟩
        · subst h
          have : (setsTo A p k j).getD i [] ∈ setsTo A p k j := by
            rw [List.getD_eq_getElem?_getD, List.getElem?_eq_getElem hlt]; exact List.getElem_mem hlt
          refine ⟨by simp, ?_⟩
          have := (h1 _ this).2
          simp; simp at this; omega
      · refine ⟨fun q hq => ?_, by simp; omega⟩
        rcases List.mem_append.1 hq with h | h
        · exact ⟨(h1 q h).1, Nat.le_succ_of_le (h1 q h).2⟩
        · simp at h; subst h; exact ⟨by simp, by simp⟩
    · exact ⟨fun q hq => ⟨(h1 q hq).1, Nat.le_succ_of_le (h1 q hq).2⟩, Nat.le_succ_of_le h2⟩
theorem pl_runes (ps : List (List Letter)) (i : Nat) : pl (runesP ps) i = (ps.getD i []).map Letter.rune := by
  unfold pl runesP
  rw [List.getD_eq_getElem?_getD, List.getD_eq_getElem?_getD, List.getElem?_map]
  cases ps[i]? <;> rfl
theorem runes_old {k : Nat} {ps : List (List Letter)} {l : Letter} {i : Nat} (h : findP k ps (mkey l k) = some i) : runesP (addP k ps l) = (runesP ps).set i (pl (runesP ps) i ++ [l.rune]) := by
  unfold addP
  rw [h, pl_runes]
  simp [runesP, List.map_set]
theorem runes_new {k : Nat} {ps : List (List Letter)} {l : Letter} (h : findP k ps (mkey l k) = none) : runesP (addP k ps l) = ((runesP ps) ++ [[]]).set (runesP ps).length (pl ((runesP ps) ++ [[]]) (runesP ps).length ++ [l.rune]) := by
  unfold addP
  rw [h, pl_app, if_pos rfl]
  simp [runesP]
/-- what the map says -/
def MapI (k : Nat) (ps : List (List Letter)) (f : Lit → Option Lit) : Prop := ∀ a b : Nat, a < 4294967296 → b < 4294967296 → f (klit a b) = (findP k ps (a, b)).map fun (i : Nat) => Lit.int .i64 (i : Int)
theorem MapI.old {k : Nat} {ps : List (List Letter)} {f : Lit → Option Lit} {l : Letter} {i : Nat} (h : MapI k ps f) (hne : ∀ q ∈ ps, q ≠ []) (hf : findP k ps (mkey l k) = some i) : MapI k (addP k ps l) f := fun a b ha hb => by
  rw [findP_add hne, h a b ha hb]
  by_cases e : (a, b) = mkey l k
  · rw [if_pos e, e, hf]; rfl
  · rw [if_neg e]
theorem MapI.new {k : Nat} {ps : List (List Letter)} {f : Lit → Option Lit} {l : Letter} (h : MapI k ps f) (hne : ∀ q ∈ ps, q ≠ []) (hf : findP k ps (mkey l k) = none) (h1 : (l.plus &&& k) < 4294967296) (h2 : (l.minus &&& k) < 4294967296) :
    MapI k (addP k ps l) (putFn f (klit (l.plus &&& k) (l.minus &&& k)) (.int .i64 (ps.length : Nat))) := fun a b ha hb => by
  rw [findP_add hne, put_klit ha hb h1 h2]
  by_cases e : (a, b) = mkey l k
  · have e2 : (a, b) = (l.plus &&& k, l.minus &&& k) := e
    rw [if_pos e, if_pos e2, hf]; rfl
  · have e2 : ¬ (a, b) = (l.plus &&& k, l.minus &&& k) := e
    rw [if_neg e, if_neg e2]
    exact h a b ha hb
def setsE (A : Alpha) (p k : Nat) : Int := if A.Ok then maskE A [p, k] else 7
def setsL (A : Alpha) (p k : Nat) : List (List Int) := if setsE A p k = 0 then runesP (setsTo A p k A.lets.length) else []
theorem pl_len_le (A : Alpha) (p k j i : Nat) (hi : i < (runesP (setsTo A p k j)).length) : (pl (runesP (setsTo A p k j)) i).length ≤ j := by
  rw [pl_runes, List.length_map]
  rw [runesP_len] at hi
  rw [List.getD_eq_getElem?_getD, List.getElem?_eq_getElem hi]
  exact ((setsTo_good A p k j).1 _ (List.getElem_mem hi)).2
end Go.Cg
namespace Go.Proofs.YtcnjgfadihimiaaDoor
open Go.RowKit Go.Cg Go.Shelf Go.Maps

theorem arr2 : WideMaps.ArrKey Tryd.prog 69 32 2 := ⟨Tryd.underlying69, by kernel_rfl, by kernel_rfl, by kernel_rfl⟩
theorem keyd2 : Keyed Tryd.prog 69 := Keyed.of_law arr2.law
theorem types_some : ∃ m, Tryd.prog.types.size = m + 1 := by
  have : 0 < Tryd.prog.types.size := of_decide_eq_true (by kernel_rfl)
  exact ⟨Tryd.prog.types.size - 1, by omega⟩
theorem key2 {a b : Nat} (ha : a < 4294967296) (hb : b < 4294967296) : keyOf Tryd.prog 69 (.agg #[.int .u32 (a : Int), .int .u32 (b : Int)]) = some (klit a b) :=
  WideMaps.keyOf_pair arr2 Tryd.underlying32 types_some (wf_u32 ha) (wf_u32 hb)

theorem infoRw : (Tryd.prog.info? 41).map (fun i => (i.zero, i.size, i.bytes)) = some (some (.slice none 0 0), 1, 24) := by kernel_rfl
theorem zIntI : (Tryd.prog.info? 3).map (·.zero) = some (some (.int .i64 0)) := by kernel_rfl

set_option maxRecDepth 100000 in
set_option maxHeartbeats 8000000 in
theorem sets_any (fp lp : Option Addr) (fc lc : Nat) (A : Alpha) (p k : Nat) (hp : p < 4294967296) (hk : k < 4294967296) (w : World) (hA : AlphaAt w fp lp A) :
    Calls Tryd.prog 17 #[.agg #[.slice fp A.feats.length fc, .slice lp A.lets.length lc], .int .u32 p, .int .u32 k] w fun e w' => ∃ v vs, e = .returned (.tuple #[v, .int .i64 (setsE A p k)]) ∧ PartsAt w' w.heap.size 41 21 v vs (setsL A p k) ∧ Ext w w' := by
  have hx3 : Ext w (w.alloc (.cells #[.slice fp A.feats.length fc, .slice lp A.lets.length lc] 26)) := (Ext.refl _).alloc _
  have hck := check_any fp lp fc lc A _ (hA.mono hx3)
  have hmk := fun W b (hW : Ext w W) (hb : W.heap.size = b) => (by
    subst hb
    exact masked_any fp lp (some ⟨W.heap.size, 0, none⟩) fc lc 2 A [p, k] (by simp) (W.alloc (.cells #[.int .u32 (p : Int), .int .u32 (k : Int)] 32)) (hA.mono (hW.alloc _)) (masks_two hp hk) :
      Calls Tryd.prog 40 #[.agg #[.slice fp A.feats.length fc, .slice lp A.lets.length lc], .slice (some ⟨b, 0, none⟩) 2 2] (W.alloc (.cells #[.int .u32 (p : Int), .int .u32 (k : Int)] 32)) _)
  have HBX := Lib.hid (fun W (hW : Ext (w.alloc (.cells #[.slice fp A.feats.length fc, .slice lp A.lets.length lc] 26)) W) => (⟨hW.cell0 0, hW.cell0 1, hW.lt0⟩ : W.cell? ⟨w.heap.size, 0, none⟩ = some (.slice fp A.feats.length fc) ∧ W.cell? ⟨w.heap.size, 1, none⟩ = some (.slice lp A.lets.length lc) ∧ w.heap.size < W.heap.size))
  have hE : setsE A p k = if A.Ok then maskE A [p, k] else 7 := rfl
  by_cases h0 : A.Ok
  · rw [if_pos h0] at hE
    rw [checkN_ok h0] at hck
    have h128 := h0.2.2.1
    by_cases hm : maskE A [p, k] = 0
    · rw [hm] at hE hmk
      rw [show setsL A p k = runesP (setsTo A p k A.lets.length) from if_pos hE, hE]
      have HMK := Lib.hid hmk
      have HCK := Lib.hid hck
      have HTO := Lib.hid (fun j => (show setsTo A p k (j + 1) = if ofB (A.at_ j) p = true then addP k (setsTo A p k j) (A.at_ j) else setsTo A p k j from rfl))
      have HGD := Lib.hid (fun j => setsTo_good A p k j)
      have HPL := Lib.hid (fun j i hi => pl_len_le A p k j i hi)
      have HOF := Lib.hid (fun i (hl : (A.at_ i).wf) W => (show Calls Tryd.prog 30 #[.agg #[.int .i32 (A.at_ i).rune, .int .u32 ((A.at_ i).plus : Int), .int .u32 ((A.at_ i).minus : Int)], .int .u32 p] W fun e W' => e = .returned (.bool (ofB (A.at_ i) p)) ∧ Ext W W' from hof_any _ _ _ p hl.2.2.1 hp W))
      obtain ⟨St, hSt⟩ : ∃ St, setsTo A p k = St := ⟨_, rfl⟩
      rw [hSt] at HTO HGD HPL ⊢
      have HS0 := Lib.hid (show St 0 = [] from by rw [← hSt]; rfl)
      clear hE hck hmk h0 hm hSt
      have hmm := @run_makeMap Tryd.prog
      obtain ⟨ir, hir, hr0, hr1, hr2⟩ := info_parts infoRu
      obtain ⟨iw, hiw, hw0, hw1, hw2⟩ := info_parts infoRw
      go_enter Tryd.func17, Tryd.ntmps17
      go_wp2_with (first | (go_at_call 39; refine HCK.out.mono ?_; rintro e w1 ⟨rfl, hx1⟩; obtain ⟨d0, d1, l0⟩ := HBX.out _ hx1) | (go_at_call 40; refine (HMK.out _ _ (hx3.trans hx1) rfl).mono ?_; rintro e w2 ⟨rfl, hx2⟩; obtain ⟨d0, d1, l0⟩ := HBX.out _ ((hx1.alloc _).trans hx2)))
      have hxw := ((hx3.trans hx1).alloc _).trans hx2
      have hlb := hA.lbig
      have hsw2 := hxw.le
      have hmd := MapFn.made Tryd.prog w2 69 3
      have HMD := Lib.hid hmd
      clear d0 d1 l0 HMK HCK hmd
      go_loopw [10, 34] (fun o i wr => ∃ (j : Nat) (vs : List Value) (f : Lit → Option Lit), j ≤ A.lets.length ∧ i = .int .i64 j ∧ Ext w2 wr ∧ w2.heap.size < wr.heap.size ∧ MapFn Tryd.prog wr 69 3 w2.heap.size j f ∧ Hid (MapI k (St j) f) ∧ PartsAt wr (w2.heap.size + 1) 41 21 o vs (runesP (St j))) (fun _ i _ => A.lets.length - (intOf i).toNat)
      case atStart => exact ⟨0, [], _, Nat.zero_le _, rfl, (Ext.refl _).alloc _, by simp, HMD.out, (fun a b _ _ => by rw [HS0.out]; rfl), by rw [HS0.out]; exact PartsAt.nil _ _ _ _⟩
      case round =>
        obtain ⟨j, vs, f, hj, rfl, hx, hwn, hMp, HMI, hPA⟩ := hrel
        by_cases hlt : j < A.lets.length
        · obtain ⟨b, off, rfl, hbw, c0, c1, c2⟩ := (hA.mono (hxw.trans hx)).cells hlt
          have hwf := hA.wf j hlt
          have hof := HOF.out j hwf
          have hto := HTO.out j
          obtain ⟨wf1, wf2, wf3, wf4⟩ := hwf
          cases hB : ofB (A.at_ j) p
          · rw [hB] at hof
            rw [if_neg (fun h => by rw [hB] at h; cases h)] at hto
            have HO := Lib.hid hof
            have HT := Lib.hid hto
            clear hof hto hB
            go_wp2_with (go_at_call 30; refine (HO.out _).mono ?_; rintro e w5 ⟨rfl, hx5⟩)
            have hy : Ext wr w5 := ((Ext.refl wr).alloc _).trans hx5
            exact ⟨⟨j + 1, vs, f, by omega, by go_num, hx.trans hy, Nat.lt_of_lt_of_le hwn hy.le, (hMp.ext hy).mono (by omega), (by rw [HT.out]; exact HMI.out), by rw [HT.out]; exact hPA.ext hy⟩, by simp [intOf]; omega⟩
          · rw [hB] at hof
            rw [if_pos hB] at hto
            have HO := Lib.hid hof
            have HT := Lib.hid hto
            obtain ⟨hgd1, hgd2⟩ := HGD.out j
            have hne := fun q hq => (hgd1 q hq).1
            have l1 : (A.at_ j).plus &&& k < 4294967296 := Nat.lt_of_le_of_lt Nat.and_le_left wf3
            have l2 : (A.at_ j).minus &&& k < 4294967296 := Nat.lt_of_le_of_lt Nat.and_le_left wf4
            have a1 := u32_and_nat (A.at_ j).plus k wf3 hk
            have a2 := u32_and_nat (A.at_ j).minus k wf4 hk
            have hky := key2 l1 l2
            have hmi := HMI.out _ _ l1 l2
            have hpl := fun i (hi : i < (runesP (St j)).length) => HPL.out j i hi
            have hLe : Ext wr (wr.alloc (.cells #[.int .i32 (A.at_ j).rune, .int .u32 ((A.at_ j).plus : Int), .int .u32 ((A.at_ j).minus : Int)] 52)) := (Ext.refl _).alloc _
            have HGO := Lib.hid (fun g h => (hPA.out.lt g h).2)
            cases hf : findP k (St j) (mkey (A.at_ j) k) with
            | some i =>
              have hmi2 : f (klit ((A.at_ j).plus &&& k) ((A.at_ j).minus &&& k)) = some (.int .i64 (i : Int)) := by rw [hmi]; show Option.map _ (findP k (St j) (mkey (A.at_ j) k)) = _; rw [hf]; rfl
              have hro := runes_old hf
              have HN := Lib.hid (HMI.out.old hne hf)
              have hi : i < (runesP (St j)).length := by rw [runesP_len]; exact findP_lt hf
              have HLK := Lib.hid (fun W (hW : Ext wr W) => by
                have := (hMp.ext hW).look_int_ok (q := .i64) (key := .agg #[.int .u32 (((A.at_ j).plus &&& k : Nat) : Int), .int .u32 (((A.at_ j).minus &&& k : Nat) : Int)]) keyd2 Tryd.underlying68 Tryd.underlying3 zIntI hky (x := (i : Int)) (by rw [hmi2]; rfl)
                rw [hmi2] at this
                exact this)
              obtain ⟨op, oc, hov⟩ := ownsRow_slice hPA.out
              subst hov
              have hfl := findP_lt hf
              have hpl := hpl i hi
              have hto2 : runesP (St (j + 1)) = (runesP (St j)).set i (pl (runesP (St j)) i ++ [(A.at_ j).rune]) := by rw [hto, hro]
              have HT2 := Lib.hid hto2
              have HT := Lib.hid hto
              clear hof hto hto2 hgd1 hne hmi hmi2 hro hky hB hf HMI hfl
              go_wp2_with (go_at_call 30; refine (HO.out _).mono ?_; rintro e w5 ⟨rfl, hx5⟩; have x0 := hx5.cell0 0; have x1 := hx5.cell0 1; have x2 := hx5.cell0 2; have lx := hx5.lt0; simp only [List.getElem?_toArray, List.getElem?_cons_zero, List.getElem?_cons_succ] at x0 x1 x2; have hlk := HLK.out (w5.alloc (.cells #[.int .u32 (((A.at_ j).plus &&& k : Nat) : Int), .int .u32 (((A.at_ j).minus &&& k : Nat) : Int)] 69)) ((hLe.trans hx5).alloc _))
              obtain ⟨go, gc, hgo, _⟩ := hPA.cell hi
              have hyX : Ext wr (w5.alloc (.cells #[.int .u32 (((A.at_ j).plus &&& k : Nat) : Int), .int .u32 (((A.at_ j).minus &&& k : Nat) : Int)] 69)) := (hLe.trans hx5).alloc _
              have PA := hPA.ext hyX
              have HMX := Lib.hid ((hMp.ext hyX).mono (Nat.le_succ j))
              have hX2 := hx.trans hyX
              obtain ⟨fm, hfm⟩ : ∃ fm, f = fm := ⟨_, rfl⟩
              rw [hfm] at HMX HN
              have hy0 : (w5.alloc (.cells #[.int .u32 (((A.at_ j).plus &&& k : Nat) : Int), .int .u32 (((A.at_ j).minus &&& k : Nat) : Int)] 69)).cell? ⟨wr.heap.size, 0, none⟩ = some (.int .i32 (A.at_ j).rune) := (((Ext.refl w5).alloc (.cells #[.int .u32 (((A.at_ j).plus &&& k : Nat) : Int), .int .u32 (((A.at_ j).minus &&& k : Nat) : Int)] 69)).facts.1 _ _ lx).trans x0
              have lX : wr.heap.size < (w5.alloc (.cells #[.int .u32 (((A.at_ j).plus &&& k : Nat) : Int), .int .u32 (((A.at_ j).minus &&& k : Nat) : Int)] 69)).heap.size := by have := hyX.le; simp; omega
              obtain ⟨WX, hWX⟩ : ∃ WX, w5.alloc (.cells #[.int .u32 (((A.at_ j).plus &&& k : Nat) : Int), .int .u32 (((A.at_ j).minus &&& k : Nat) : Int)] 69) = WX := ⟨_, rfl⟩
              rw [hWX] at hX2 HMX PA hy0 lX ⊢
              simp only [Value.slice.injEq] at hgo
              obtain ⟨hgo1, hgo2, hgo3⟩ := hgo
              subst hgo1
              subst hgo3
              have HPA7 := Lib.hid hPA
              obtain ⟨LS, hLS⟩ : ∃ LS, runesP (St j) = LS := ⟨_, rfl⟩
              rw [hLS] at PA hi hpl HT2
              obtain ⟨VS, hVS⟩ : ∃ VS, vs = VS := ⟨_, rfl⟩
              rw [hVS] at PA ⊢
              clear hWX x0 x1 x2 lx hlk c0 c1 c2 hPA hLS hVS hgo2 hx5 hMp hyX hfm
              have hcX := PA.cell hi
              obtain ⟨go', gc', ho', hgb, hgl, hgc, hgf⟩ := hcX
              obtain ⟨pp, pc, hpp⟩ := PA.part hi
              have hrw := PA.row i hi
              have hap := fun g hg => (PA.apart i hi g hg).1
              have hpn := hpl
              have hblk := PA.blk hi
              rw [hpp] at hgc hrw hap hblk
              simp only [Value.slice.injEq, Option.some.injEq, Addr.mk.injEq, and_true] at ho'
              obtain ⟨hgo', hgl', hgc'⟩ := ho'
              subst hgo'
              subst hgc'
              clear hgl'
              have hne0 : some go ≠ (Value.slice pp (pl LS i).length pc).ownBlock := fun e => hap go e.symm rfl
              have HPU := Lib.hid (fun W (hW : Ext WX W) W' g cap h1 h2 h3 => PartsAt.push (w := W) (w' := W') (x := (A.at_ j).rune) (g := g) (cap := cap) (PA.ext hW) hi h1 h2 h3)
              rw [hpp] at HPU
              have HCX := Lib.hid (fun W (hW : Ext WX W) => (hW.facts.1 go i hgl).trans hgc)
              have HFX := Lib.hid (fun W (hW : Ext WX W) => (hW.facts.2.1 go i hgl).trans hgf)
              have HNE := Lib.hid hne0
              have HRW := Lib.hid hrw
              have HBK := Lib.hid hblk
              obtain ⟨pn, hpn'⟩ : ∃ pn, pl LS i = pn := ⟨_, rfl⟩
              rw [hpn'] at HPU HCX HNE HRW HBK hpn hgc HT2
              obtain ⟨VL, hVL⟩ : ∃ VL, VS.length = VL := ⟨_, rfl⟩
              rw [hVL] at HPU ⊢
              have hiV : i < VL := by rw [← hVL, PA.len]; exact hi
              have hi0 : (0 : Int) ≤ (i : Int) := by omega
              have hi1 : (i : Int) < (VL : Int) := by omega
              have HVL := Lib.hid hVL
              clear hpp hrw hap hne0 hblk PA hpn' hVL HPA7
              go_region_law (refine step_append_lies _ rfl (.tmp 72) (.tmp 75) 41 rfl (w2.heap.size + 1) 21 ir (.int .i32 0) 1 4 Tryd.underlying41 hir hr0 hr1 hr2 rfl (by decide) (.slice pp pn.length pc) pn.length (pn.map (Value.int .i32)) (by simp [Act.eval]) (ownsRow_ext HRW.out (by repeat (first | assumption | exact Ext.refl _ | refine Ext.alloc ?_ _ | refine Ext.drew ?_ | refine Ext.drewN ?_ _ | refine Ext.setCell ?_ (by first | (simp; done) | (simp; omega) | omega) _ | (refine Ext.trans ?_ (by assumption))))) ⟨WX.heap.size, 0, none⟩ 1 1 [.int .i32 (A.at_ j).rune] (by simp [Act.eval]) rfl (one_cell _ _ _) (by simp [Value.oneCell']) (by decide) (by unfold maxLen; omega) (by omega) (by simp; omega) _ rfl ?_; intro ng nc w8 hrow8 hg8 hn8 hl8; have c9 := hg8.cell (HCX.out _ (by repeat (first | assumption | exact Ext.refl _ | refine Ext.alloc ?_ _ | refine Ext.drew ?_ | refine Ext.drewN ?_ _ | refine Ext.setCell ?_ (by first | (simp; done) | (simp; omega) | omega) _ | (refine Ext.trans ?_ (by assumption))))) HNE.out; have f9 := (hg8.frozen_far ⟨go, i, none⟩ (by simp; omega) HNE.out).trans (HFX.out _ (by repeat (first | assumption | exact Ext.refl _ | refine Ext.alloc ?_ _ | refine Ext.drew ?_ | refine Ext.drewN ?_ _ | refine Ext.setCell ?_ (by first | (simp; done) | (simp; omega) | omega) _ | (refine Ext.trans ?_ (by assumption))))))
              all_goals go_wp2_with fail
              all_goals
                refine ⟨⟨j + 1, VS.set i (.slice (some ⟨ng, 0, none⟩) (pn.length + 1) nc), fm, by omega, by go_num, ?_, ?_, ?_, ?_, ?_⟩, by simp [intOf]; omega⟩
                · exact (Ext.grown (hX2.trans (by repeat (first | assumption | exact Ext.refl _ | refine Ext.alloc ?_ _ | refine Ext.drew ?_ | refine Ext.drewN ?_ _ | refine Ext.setCell ?_ (by first | (simp; done) | (simp; omega) | omega) _ | (refine Ext.trans ?_ (by assumption))))) hg8 (fun q hq => by have := (HBK.out q hq).1; omega)).setCell (by show w2.heap.size ≤ go; omega) _
                · rw [size_setCell]
                  have h9 := hg8.size
                  simp at h9
                  omega
                · exact ((HMX.out.ext (by repeat (first | assumption | exact Ext.refl _ | refine Ext.alloc ?_ _ | refine Ext.drew ?_ | refine Ext.drewN ?_ _ | refine Ext.setCell ?_ (by first | (simp; done) | (simp; omega) | omega) _ | (refine Ext.trans ?_ (by assumption))))).kept hg8 (fun e => by have := (HBK.out _ e.symm).1; omega)).kept (gb_set (gb_refl _ _) i _) (by simp; omega)
                · rw [HT.out]; exact HN.out
                · rw [HT2.out]; exact HPU.out _ (by repeat (first | assumption | exact Ext.refl _ | refine Ext.alloc ?_ _ | refine Ext.drew ?_ | refine Ext.drewN ?_ _ | refine Ext.setCell ?_ (by first | (simp; done) | (simp; omega) | omega) _ | (refine Ext.trans ?_ (by assumption)))) _ _ _ hrow8 hg8 hn8
            | none =>
              have hmi2 : f (klit ((A.at_ j).plus &&& k) ((A.at_ j).minus &&& k)) = none := by rw [hmi]; show Option.map _ (findP k (St j) (mkey (A.at_ j) k)) = _; rw [hf]; rfl
              have hro := runes_new hf
              have hvj : vs.length = (St j).length := by rw [hPA.len, runesP_len]
              have hrl : (runesP (St j)).length = vs.length := hPA.len.symm
              have hNN := HMI.out.new hne hf l1 l2
              rw [← hvj] at hNN
              rw [hrl] at hro
              have hto2 : runesP (St (j + 1)) = ((runesP (St j)) ++ [[]]).set vs.length (pl ((runesP (St j)) ++ [[]]) vs.length ++ [(A.at_ j).rune]) := by rw [hto, hro]
              have hw9 : (Lit.int .i64 ((vs.length : Nat) : Int)).wf = true := by
                simp only [Lit.wf, IntKind.min, IntKind.max, IntKind.signed, IntKind.bits, Bool.and_eq_true, decide_eq_true_eq, if_true]; omega
              have HPE := Lib.hid (plainElem_int (H := Unit) (P := Tryd.prog) Tryd.underlying3 hw9)
              have hv9 : vs.length ≤ j := by rw [hvj]; exact hgd2
              have HN := Lib.hid hNN
              have HLK := Lib.hid (fun W (hW : Ext wr W) => by
                have := (hMp.ext hW).look_int_ok (q := .i64) (key := .agg #[.int .u32 (((A.at_ j).plus &&& k : Nat) : Int), .int .u32 (((A.at_ j).minus &&& k : Nat) : Int)]) keyd2 Tryd.underlying68 Tryd.underlying3 zIntI hky (x := (0 : Int)) (by rw [hmi2]; rfl)
                rw [hmi2] at this
                exact this)
              obtain ⟨op, oc, hov⟩ := ownsRow_slice hPA.out
              subst hov
              have HT2 := Lib.hid hto2
              have HT := Lib.hid hto
              have HKY := Lib.hid hky
              have HRL := Lib.hid hrl
              have HHM := Lib.hid hMp
              have HPP := Lib.hid hPA
              have hdw := hPA.out.lt
              have HDW := Lib.hid hdw
              clear hof hto hto2 hgd1 hgd2 hne hmi hmi2 hro hky hB hf HMI hNN hvj hrl hMp hPA hdw hw9
              go_wp2_with (first | (go_at_call 30; refine (HO.out _).mono ?_; rintro e w5 ⟨rfl, hx5⟩; have x0 := hx5.cell0 0; have x1 := hx5.cell0 1; have x2 := hx5.cell0 2; have lx := hx5.lt0; simp only [List.getElem?_toArray, List.getElem?_cons_zero, List.getElem?_cons_succ] at x0 x1 x2; have hlk := HLK.out (w5.alloc (.cells #[.int .u32 (((A.at_ j).plus &&& k : Nat) : Int), .int .u32 (((A.at_ j).minus &&& k : Nat) : Int)] 69)) ((hLe.trans hx5).alloc _)) | (at_mapUpdate; go_loud (refine wpList_mapUpdate_fn _ rfl _ _ _ 68 rfl 69 3 w2.heap.size j f (HHM.out.ext ((hLe.trans hx5).alloc _)) keyd2 Tryd.underlying68 (by unfold maxLen; omega) rfl _ _ _ (.int .i64 (vs.length : Nat)) rfl rfl HKY.out HPE.out ?_); intro w6 hM6 hg6 hs6; have hl6 : w2.heap.size + 1 ≤ w6.heap.size := (by rw [hs6, size_alloc]; omega); have hl9 : wr.heap.size < w6.heap.size := (by rw [hs6, size_alloc]; omega); clear hs6) | (at_builtin; go_loud (refine wpList_append_lies _ rfl _ _ 36 rfl (w2.heap.size + 1) 41 iw (.slice none 0 0) 1 24 Tryd.underlying36 hiw hw0 hw1 hw2 rfl (by decide) (.slice op vs.length oc) vs.length vs rfl (((HPP.out.ext ((hLe.trans hx5).alloc _)).kept hg6 (fun q hq => by cases hq; omega)).ext ((Ext.refl _).alloc _)).out ⟨w6.heap.size, 0, none⟩ 1 1 [.slice none 0 0] rfl rfl (one_cell _ _ _) (by simp [Value.oneCell']) (by decide) (by unfold maxLen; omega) (by omega) (by simp; omega) _ rfl ?_); intro go gc w7 hrow7 hg7 hn7 hl7))
              have hyX : Ext wr (w5.alloc (.cells #[.int .u32 (((A.at_ j).plus &&& k : Nat) : Int), .int .u32 (((A.at_ j).minus &&& k : Nat) : Int)] 69)) := (hLe.trans hx5).alloc _
              have hg6a := hg6
              have PA6 := ((HPP.out.ext hyX).kept hg6 (fun q hq => by cases hq; omega)).ext ((Ext.refl w6).alloc (.cells #[.slice none 0 0] 41))
              have PA := PartsAt.addNil PA6 (by rw [size_alloc]; omega) hrow7 hg7 hn7
              have hX5 := hx.trans hyX
              have hX6 : Ext w2 (w6.alloc (.cells #[.slice none 0 0] 41)) := (hX5.grown hg6 (fun q hq => by cases hq; exact Nat.le_refl _)).alloc _
              have hX2 : Ext w2 w7 := hX6.grown hg7 (fun q hq => by have := (PA6.out.lt q hq).1; omega)
              have HMX := Lib.hid (((hM6.ext ((Ext.refl w6).alloc (.cells #[.slice none 0 0] 41))).kept hg7 (fun e => by have := (PA6.out.lt _ e.symm).1; omega)).mono (Nat.le_refl (j + 1)))
              have hyc : (w5.alloc (.cells #[.int .u32 (((A.at_ j).plus &&& k : Nat) : Int), .int .u32 (((A.at_ j).minus &&& k : Nat) : Int)] 69)).cell? ⟨wr.heap.size, 0, none⟩ = some (.int .i32 (A.at_ j).rune) := (((Ext.refl w5).alloc (.cells #[.int .u32 (((A.at_ j).plus &&& k : Nat) : Int), .int .u32 (((A.at_ j).minus &&& k : Nat) : Int)] 69)).facts.1 _ _ lx).trans x0
              have hyd := ((Ext.refl w6).alloc (.cells #[.slice none 0 0] 41)).facts.1 wr.heap.size 0 hl9
              have hy0 := hg7.cell (hyd.trans (hg6.cell hyc (by simp <;> omega))) (fun e => Nat.lt_irrefl _ (HDW.out _ e.symm).2)
              have lX : wr.heap.size < w7.heap.size := by have := hg7.size; rw [size_alloc] at this; omega
              obtain ⟨WX, hWX⟩ : ∃ WX, w7 = WX := ⟨_, rfl⟩
              rw [hWX] at hX2 HMX PA hy0 lX ⊢
              obtain ⟨fm, hfm⟩ : ∃ fm, putFn f (klit ((A.at_ j).plus &&& k) ((A.at_ j).minus &&& k)) (.int .i64 (vs.length : Nat)) = fm := ⟨_, rfl⟩
              rw [hfm] at HMX HN
              have hi : vs.length < (runesP (St j) ++ [[]]).length := by rw [List.length_append, HRL.out]; simp
              have hpl : (pl (runesP (St j) ++ [[]]) vs.length).length ≤ j := by rw [pl_app, if_pos HRL.out.symm]; exact Nat.zero_le _
              obtain ⟨LS, hLS⟩ : ∃ LS, runesP (St j) ++ [[]] = LS := ⟨_, rfl⟩
              rw [hLS] at PA hi hpl HT2
              have hVL0 : vs.length + 1 = (vs ++ [Value.slice none 0 0]).length := by simp
              obtain ⟨VS, hVS⟩ : ∃ VS, vs ++ [Value.slice none 0 0] = VS := ⟨_, rfl⟩
              rw [hVS] at PA hVL0
              rw [hVL0] at PA ⊢
              obtain ⟨i, hiv⟩ : ∃ i, vs.length = i := ⟨_, rfl⟩
              rw [hiv] at hi hpl HT2 ⊢
              have HPA7 := Lib.hid hiv
              clear hWX x0 x1 x2 lx hlk c0 c1 c2 hLS hVS hVL0 hx5 hyX hfm hiv HPP HDW HRL HLK HHM HPE HKY hg6 hg6a PA6 hX5 hX6 hM6 hyc hyd hrow7 hg7 hn7 hl7 hl9
              have hcX := PA.cell hi
              obtain ⟨go', gc', ho', hgb, hgl, hgc, hgf⟩ := hcX
              obtain ⟨pp, pc, hpp⟩ := PA.part hi
              have hrw := PA.row i hi
              have hap := fun g hg => (PA.apart i hi g hg).1
              have hpn := hpl
              have hblk := PA.blk hi
              rw [hpp] at hgc hrw hap hblk
              simp only [Value.slice.injEq, Option.some.injEq, Addr.mk.injEq, and_true] at ho'
              obtain ⟨hgo', hgl', hgc'⟩ := ho'
              subst hgo'
              subst hgc'
              clear hgl'
              have hne0 : some go ≠ (Value.slice pp (pl LS i).length pc).ownBlock := fun e => hap go e.symm rfl
              have HPU := Lib.hid (fun W (hW : Ext WX W) W' g cap h1 h2 h3 => PartsAt.push (w := W) (w' := W') (x := (A.at_ j).rune) (g := g) (cap := cap) (PA.ext hW) hi h1 h2 h3)
              rw [hpp] at HPU
              have HCX := Lib.hid (fun W (hW : Ext WX W) => (hW.facts.1 go i hgl).trans hgc)
              have HFX := Lib.hid (fun W (hW : Ext WX W) => (hW.facts.2.1 go i hgl).trans hgf)
              have HNE := Lib.hid hne0
              have HRW := Lib.hid hrw
              have HBK := Lib.hid hblk
              obtain ⟨pn, hpn'⟩ : ∃ pn, pl LS i = pn := ⟨_, rfl⟩
              rw [hpn'] at HPU HCX HNE HRW HBK hpn hgc HT2
              obtain ⟨VL, hVL⟩ : ∃ VL, VS.length = VL := ⟨_, rfl⟩
              rw [hVL] at HPU ⊢
              have hiV : i < VL := by rw [← hVL, PA.len]; exact hi
              have hi0 : (0 : Int) ≤ (i : Int) := by omega
              have hi1 : (i : Int) < (VL : Int) := by omega
              have HVL := Lib.hid hVL
              clear hpp hrw hap hne0 hblk PA hpn' hVL HPA7
              go_region_law (refine step_append_lies _ rfl (.tmp 72) (.tmp 75) 41 rfl (w2.heap.size + 1) 21 ir (.int .i32 0) 1 4 Tryd.underlying41 hir hr0 hr1 hr2 rfl (by decide) (.slice pp pn.length pc) pn.length (pn.map (Value.int .i32)) (by simp [Act.eval]) (ownsRow_ext HRW.out (by repeat (first | assumption | exact Ext.refl _ | refine Ext.alloc ?_ _ | refine Ext.drew ?_ | refine Ext.drewN ?_ _ | refine Ext.setCell ?_ (by first | (simp; done) | (simp; omega) | omega) _ | (refine Ext.trans ?_ (by assumption))))) ⟨WX.heap.size, 0, none⟩ 1 1 [.int .i32 (A.at_ j).rune] (by simp [Act.eval]) rfl (one_cell _ _ _) (by simp [Value.oneCell']) (by decide) (by unfold maxLen; omega) (by omega) (by simp; omega) _ rfl ?_; intro ng nc w8 hrow8 hg8 hn8 hl8; have c9 := hg8.cell (HCX.out _ (by repeat (first | assumption | exact Ext.refl _ | refine Ext.alloc ?_ _ | refine Ext.drew ?_ | refine Ext.drewN ?_ _ | refine Ext.setCell ?_ (by first | (simp; done) | (simp; omega) | omega) _ | (refine Ext.trans ?_ (by assumption))))) HNE.out; have f9 := (hg8.frozen_far ⟨go, i, none⟩ (by simp; omega) HNE.out).trans (HFX.out _ (by repeat (first | assumption | exact Ext.refl _ | refine Ext.alloc ?_ _ | refine Ext.drew ?_ | refine Ext.drewN ?_ _ | refine Ext.setCell ?_ (by first | (simp; done) | (simp; omega) | omega) _ | (refine Ext.trans ?_ (by assumption))))))
              all_goals go_wp2_with fail
              all_goals
                refine ⟨⟨j + 1, VS.set i (.slice (some ⟨ng, 0, none⟩) (pn.length + 1) nc), fm, by omega, by go_num, ?_, ?_, ?_, ?_, ?_⟩, by simp [intOf]; omega⟩
                · exact (Ext.grown (hX2.trans (by repeat (first | assumption | exact Ext.refl _ | refine Ext.alloc ?_ _ | refine Ext.drew ?_ | refine Ext.drewN ?_ _ | refine Ext.setCell ?_ (by first | (simp; done) | (simp; omega) | omega) _ | (refine Ext.trans ?_ (by assumption))))) hg8 (fun q hq => by have := (HBK.out q hq).1; omega)).setCell (by show w2.heap.size ≤ go; omega) _
                · rw [size_setCell]
                  have h9 := hg8.size
                  simp at h9
                  omega
                · exact ((HMX.out.ext (by repeat (first | assumption | exact Ext.refl _ | refine Ext.alloc ?_ _ | refine Ext.drew ?_ | refine Ext.drewN ?_ _ | refine Ext.setCell ?_ (by first | (simp; done) | (simp; omega) | omega) _ | (refine Ext.trans ?_ (by assumption))))).kept hg8 (fun e => by have := (HBK.out _ e.symm).1; omega)).kept (gb_set (gb_refl _ _) i _) (by simp; omega)
                · rw [HT.out]; exact HN.out
                · rw [HT2.out]; exact HPU.out _ (by repeat (first | assumption | exact Ext.refl _ | refine Ext.alloc ?_ _ | refine Ext.drew ?_ | refine Ext.drewN ?_ _ | refine Ext.setCell ?_ (by first | (simp; done) | (simp; omega) | omega) _ | (refine Ext.trans ?_ (by assumption)))) _ _ _ hrow8 hg8 hn8
        · have e : j = A.lets.length := by omega
          subst e
          go_wp2_with fail
          go_ret2
          exact ⟨_, vs, rfl, hPA.base (by omega), hxw.trans hx⟩
    · have gE : (maskE A [p, k] != 0) = true := by rw [bne_iff_ne]; exact hm
      rw [show setsL A p k = [] from if_neg (by rw [hE]; exact hm), hE]
      have HMK := Lib.hid hmk
      have HCK := Lib.hid hck
      clear hE hck hmk h0 hm
      go_enter Tryd.func17, Tryd.ntmps17
      go_wp2_with (first | (go_at_call 39; refine HCK.out.mono ?_; rintro e w1 ⟨rfl, hx1⟩; obtain ⟨d0, d1, l0⟩ := HBX.out _ hx1) | (go_at_call 40; refine (HMK.out _ _ (hx3.trans hx1) rfl).mono ?_; rintro e w2 ⟨rfl, hx2⟩))
      go_ret2
      exact ⟨_, [], rfl, PartsAt.nil _ _ _ _, ((hx3.trans hx1).alloc _).trans hx2⟩
  · rw [if_neg h0] at hE
    rw [checkN_bad h0] at hck
    rw [show setsL A p k = [] from if_neg (by rw [hE]; decide), hE]
    have HCK := Lib.hid hck
    clear hE hck hmk h0
    go_enter Tryd.func17, Tryd.ntmps17
    go_wp2_with (go_at_call 39; refine HCK.out.mono ?_; rintro e w1 ⟨rfl, hx1⟩)
    go_ret2
    exact ⟨_, [], rfl, PartsAt.nil _ _ _ _, hx3.trans hx1⟩

end Go.Proofs.YtcnjgfadihimiaaDoor
