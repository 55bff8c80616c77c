/- Contracts: slices.Clone, slices.Grow, slices.Concat at rows of runes: a new row, nothing else turned. -/
import Derived.Test.YtkmfhcjdaglikaaDoorPara
import Derived.Test.YtkmfhcjdaglikaaDoorHeld
import Derived.Lib.AppendZeros
import Derived.Lib.SliceRun
namespace Go.Cg
open Go.RowKit
/-- nothing appended to a row of the call's own -/
theorem run_append_zero {P : Program} {w : World} (t ty e : TypeId) (i : TypeInfo) (ht : P.underlying t = some (.slice e)) (hi : P.info? e = some i) {base size n : Nat} {v : Value} {xs : List Value} (h : w.ownsRow base e size v n xs) (sp : Option Addr) (c : Nat) :
    (Builtin.append_ #[t, t] ty #[v, .slice sp 0 c]).run P w = .ok v w := by
  have hf : (Builtin.firstCells i.size 0 (.slice sp 0 c)).run P w = .ok #[] w := by
    cases sp with
    | none => simp [Builtin.firstCells]
    | some b => simp [Builtin.firstCells, loadCells, loadCellsFrom]
  rcases h.2 with ⟨rfl, rfl⟩ | ⟨g, cap, cur, rfl, _, hg, hn, _⟩
  · simp [Builtin.append_, run_underlying ht, sizeOf, typeInfo, hi, Builtin.lenOf, hf]
  · simp [Builtin.append_, run_underlying ht, sizeOf, typeInfo, hi, Builtin.lenOf, hf, hn, storeCells]
/-- append to a row of the call's own, whatever the source -/
theorem wpList_append_any {P : Program} (w : World) {ops : Array Oper} {rest : List Oper} {o : Oper} {a : Act} {Q : Exit → Act → World → Prop} (hgd : o.guard = none) (s x : Operand) (t : TypeId)
    (ho : o.op = .call { callee := .builtin .append, args := #[s, x], argTypes := #[t, t] })
    (base : Nat) (e : TypeId) (i : TypeInfo) (z : Value) (size bytes : Nat) (ht : P.underlying t = some (.slice e)) (hi : P.info? e = some i) (hz : i.zero = some z)
    (hsize : i.size = size) (hby : i.bytes = bytes) (hzs : z.cells.size = size) (hsz : 0 < size)
    (v : Value) (n : Nat) (xs : List Value) (hs : a.eval s = v) (hown : w.ownsRow base e size v n xs)
    (sp : Option Addr) (m c : Nat) (news : List Value) (hx : a.eval x = .slice sp m c) (hl : news.length = m * size) (hnews : m ≠ 0 → ∃ ad, sp = some ad ∧ ∀ j u, news[j]? = some u → w.cell? (ad.add j) = some u) (h1 : ∀ u ∈ news, u.oneCell' = true)
    (h63 : n + m ≤ maxLen) (hbytes : (n + m) * bytes ≤ 140737488355328) (hbase : base ≤ w.heap.size)
    (h : ∀ v' w', w'.ownsRow base e size v' (n + m) (xs ++ news) → w.grownBy w' v.ownBlock → wpList P ops Q rest (a.put o.dst v') w') : wpList P ops Q (o :: rest) a w := by
  by_cases hm : m = 0
  · subst hm
    have hn : news = [] := List.length_eq_zero_iff.1 (by simpa using hl)
    subst hn
    refine wpList_plain hgd fun K hK => ?_
    have hrun := run_append_zero (P := P) (w := w) t o.type e i ht hi hown sp c
    unfold Oper.wp
    simp [execOp, ho, resolve, invoke, builtin, hs, hx, hrun, Result.andThen]
    exact hK _ _ (h _ _ (by rw [Nat.add_zero, List.append_nil]; exact hown) ⟨rfl, rfl, rfl, Nat.le_refl _, fun _ _ _ => rfl⟩)
  · obtain ⟨ad, rfl, hc⟩ := hnews hm
    exact wpList_append_own w hgd s x t ho base e i z size bytes ht hi hz hsize hby hzs hsz v n xs hs hown ad m c news hx hl hc h1 h63 hbytes hbase fun v' w' h2 h3 _ => h v' w' h2 h3
/-- an append whose run is known -/
theorem wpList_append_run {P : Program} (w : World) {ops : Array Oper} {rest : List Oper} {o : Oper} {a : Act} {Q : Exit → Act → World → Prop} (hgd : o.guard = none) (s x : Operand) (t tn : TypeId)
    (ho : o.op = .call { callee := .builtin .append, args := #[s, x], argTypes := #[t, tn] }) (v : Value) (w' : World) (hrun : (Builtin.append_ #[t, tn] o.type #[a.eval s, a.eval x]).run P w = .ok v w')
    (h : wpList P ops Q rest (a.put o.dst v) w') : wpList P ops Q (o :: rest) a w := by
  refine wpList_plain hgd fun K hK => ?_
  unfold Oper.wp
  simp [execOp, ho, resolve, invoke, builtin, hrun, Result.andThen]
  exact hK _ _ h
def lj (L : List (List Int)) (j : Nat) : List Int := L.getD j []
theorem lj_eq {L : List (List Int)} {j : Nat} (h : j < L.length) : lj L j = L[j] := by simp [lj, List.getD, h]
def catTo (L : List (List Int)) (k : Nat) : List Int := (L.take k).flatten
theorem catTo_succ {L : List (List Int)} {k : Nat} (h : k < L.length) : catTo L (k + 1) = catTo L k ++ lj L k := by
  unfold catTo; rw [List.take_succ_eq_append_getElem h, List.flatten_append, lj_eq h]; simp
theorem catTo_all (L : List (List Int)) : catTo L L.length = L.flatten := by unfold catTo; rw [List.take_length]
theorem catTo_len {L : List (List Int)} {M : Nat} (h : ∀ j, j < L.length → (lj L j).length ≤ M) : ∀ k, k ≤ L.length → (catTo L k).length ≤ k * M
  | 0, _ => by simp [catTo]
  | k + 1, hk => by
    have := catTo_len h k (by omega)
    have h2 := h k (by omega)
    rw [catTo_succ (by omega), List.length_append, Nat.succ_mul]; omega
theorem runes_src {w : World} {p : Option Addr} {l : List Int} (h : RunesAt w p l) : l.length ≠ 0 → ∃ ad, p = some ad ∧ ∀ (j : Nat) (u : Value), (l.map (Value.int .i32))[j]? = some u → w.cell? (ad.add j) = some u := by
  intro h0
  obtain ⟨b, off, rfl, _⟩ := h.some_ (by omega)
  refine ⟨_, rfl, fun j u hu => ?_⟩
  have e : ((⟨b, off, none⟩ : Addr).add j) = ⟨b, off + j, none⟩ := by simp [Addr.add]
  rw [List.getElem?_map] at hu
  by_cases hj : j < l.length
  · rw [List.getElem?_eq_getElem hj] at hu
    rw [e, (h.cell hj).2, rn_eq hj, ← hu]; rfl
  · rw [List.getElem?_eq_none (by omega)] at hu; cases hu
theorem runes_one (l : List Int) : ∀ u ∈ l.map (Value.int .i32), u.oneCell' = true := by
  intro u hu
  obtain ⟨r, _, rfl⟩ := List.mem_map.1 hu
  rfl
theorem runesAt_all {w : World} {p : Option Addr} {l : List Int} (h : RunesAt w p l) : ∀ r ∈ l, -2147483648 ≤ r ∧ r ≤ 2147483647 := fun r hr => by
  obtain ⟨j, hj, e⟩ := List.getElem_of_mem hr
  have := h.wf j hj
  rwa [rn_eq hj, e] at this
theorem ownRunes_mk {T B : Nat} {w : World} {p : Option Addr} {c : Nat} {l : List Int} (h : w.ownsRow B T 1 (.slice p l.length c) l.length (l.map (Value.int .i32))) (hl : l.length ≤ 35184372088832) (hr : ∀ r ∈ l, -2147483648 ≤ r ∧ r ≤ 2147483647) : OwnRunes T B w p c l :=
  ⟨h, hl, mem_rn hr⟩
end Go.Cg
namespace Go.Proofs.YtkmfhcjdaglikaaDoor
open Go.RowKit Go.Cg Go.Shelf Go.Maps

set_option maxRecDepth 100000 in
set_option maxHeartbeats 1000000 in
theorem Clone_any (p : Option Addr) (c : Nat) (l : List Int) (hl : l.length ≤ 65536) (w : World) (h : RunesAt w p l) :
    Calls Tryd.prog 118 #[.slice p l.length c] w fun e w' => ∃ rp rc, e = .returned (.slice rp l.length rc) ∧ OwnRunes 21 w.heap.size w' rp rc l ∧ Ext w w' := by
  have qT : ∀ (w : World) (a : Option Addr) (n c n' c' : Nat), (binOp .eql 75 (.slice a n c) (.slice none n' c')).run Tryd.prog w = .ok (.bool a.isNone) w := fun w a n c n' c' => Lib.run_eql_slice_nil w _ _ a n c n' c' Tryd.underlying75
  obtain ⟨i0, hi, hz0, hz1, hz2⟩ := info_parts infoR
  cases p with
  | none =>
    have e := h.none_
    subst e
    go_enter Tryd.func118, Tryd.ntmps118
    go_wp2_with fail
    go_ret
    exact ⟨none, 0, rfl, OwnRunes.nil _ _ _, Ext.refl _⟩
  | some ad =>
    have hsrc := runes_src h
    have hall := runesAt_all h
    have HS := Lib.hid hsrc
    clear hsrc
    go_enter Tryd.func118, Tryd.ntmps118
    go_wp2_with (at_builtin; go_loud (refine wpList_append_any _ rfl _ _ 75 rfl w.heap.size 21 i0 (.int .i32 0) 1 4 Tryd.underlying75 hi hz0 hz1 hz2 rfl (by decide) _ 0 [] rfl (World.ownsRow_made (base := w.heap.size) (e := 21) (size := 1) w #[] 0 (Nat.le_refl _) (by decide) rfl) (some ad) l.length c (l.map (Value.int .i32)) rfl (by rw [List.length_map, Nat.mul_one]) (fun h0 => by obtain ⟨a, e, hc⟩ := HS.out h0; exact ⟨a, e, fun j u hu => ((runes_src (h.mono ((Ext.refl _).alloc _)) h0).elim fun a2 h2 => by have := h2.1.symm.trans e; cases this; exact h2.2 j u hu)⟩) (runes_one l) (by unfold maxLen; omega) (by omega) (by simp) ?_); intro v' w4 hown4 hgrow)
    rw [Nat.zero_add, List.nil_append] at hown4
    obtain ⟨rp, rc, rfl⟩ := ownsRow_slice hown4
    go_wp2_with fail
    go_ret
    exact ⟨rp, rc, rfl, ownRunes_mk hown4 (by omega) hall, Ext.append ((Ext.refl _).alloc _) (World.ownsRow_made (base := w.heap.size) (e := 21) (size := 1) w #[] 0 (Nat.le_refl _) (by decide) rfl) hgrow (Nat.le_refl _)⟩

set_option maxRecDepth 100000 in
set_option maxHeartbeats 1000000 in
theorem Grow_any (n : Nat) (hn : n ≤ 1048576) (w : World) :
    Calls Tryd.prog 113 #[.slice none 0 0, .int .i64 (n : Int)] w fun e w' => ∃ v, e = .returned v ∧ w'.ownsRow w.heap.size 21 1 v 0 [] ∧ Ext w w' := by
  obtain ⟨i0, hi, hz0, hz1, hz2⟩ := info_parts infoR
  by_cases h0 : n = 0
  · subst h0
    go_enter Tryd.func113, Tryd.ntmps113
    go_wp2_with fail
    go_ret
    exact ⟨_, rfl, World.ownsRow_nil _ _ _ _, Ext.refl _⟩
  · have hrun := fun ty => Lib.run_append_nil_zeros (P := Tryd.prog) w 75 3 ty 21 i0 (.int .i32 0) .i64 .i64 Tryd.underlying75 Tryd.underlying3 hi hz0 n (by omega) (by omega) (by omega) (by rw [hz2]; omega)
    have hge := grownCap_ge w n 0 21
    have hle := grownCap_le_maxLen w n 0 21 (by unfold maxLen; omega)
    have hz : (Builtin.zeroCells (Value.int .i32 0).cells n ++ Builtin.zeroCells (Value.int .i32 0).cells (grownCap w n 0 21 - n)).size = grownCap w n 0 21 := by
      simp [Builtin.zeroCells, Value.cells]; omega
    obtain ⟨C, hC⟩ : ∃ C, grownCap w n 0 21 = C := ⟨_, rfl⟩
    rw [hC] at hrun hge hle hz
    obtain ⟨Z, hZ⟩ : ∃ Z, Builtin.zeroCells (Value.int .i32 0).cells n ++ Builtin.zeroCells (Value.int .i32 0).cells (C - n) = Z := ⟨_, rfl⟩
    rw [hZ] at hrun hz
    have hz' : Z.size = C * 1 := by omega
    have HZ := Lib.hid hz'
    have HLE := Lib.hid hle
    have h1 : ¬ ((n : Int) < 0) := by omega
    have h2 : (n : Int) > 0 := by omega
    have h3 : decide ((0 : Int) < (n : Int)) = true := decide_eq_true (by omega)
    have h9 : (0 : Int) ≤ (C : Int) := by omega
    unfold maxLen at hle
    have HRUN := Lib.hid hrun
    clear hz hz' hC hZ hge hrun
    go_enter Tryd.func113, Tryd.ntmps113
    go_wp2_with (at_builtin; go_loud (refine wpList_append_run _ rfl _ _ _ _ rfl _ _ (HRUN.out _) ?_))
    go_ret
    exact ⟨_, rfl, (World.ownsRow_made w.drew Z C (Nat.le_refl _) HLE.out HZ.out), ((Ext.refl _).drew).alloc _⟩

set_option maxRecDepth 100000 in
set_option maxHeartbeats 2000000 in
theorem Concat_any (sp : Option Addr) (sc : Nat) (L : List (List Int)) (pp : Nat → Option Addr) (cc : Nat → Nat) (hn : L.length ≤ 8) (hl : ∀ j, j < L.length → (lj L j).length ≤ 4096) (w : World)
    (hR : Reads w sp L.length (fun j => .slice (pp j) (lj L j).length (cc j))) (hA : ∀ j, j < L.length → RunesAt w (pp j) (lj L j)) :
    Calls Tryd.prog 112 #[.slice sp L.length sc] w fun e w' => ∃ rp rc, e = .returned (.slice rp L.flatten.length rc) ∧ OwnRunes 21 w.heap.size w' rp rc L.flatten ∧ Ext w w' := by
  obtain ⟨i0, hi, hz0, hz1, hz2⟩ := info_parts infoR
  have hct := catTo_len hl
  have hal := catTo_all L
  have hgr := fun n (hn : n ≤ 1048576) W => Grow_any n hn W
  have HGR := Lib.hid hgr
  have HCT := Lib.hid hct
  have HAL := Lib.hid hal
  have HL := Lib.hid hl
  have HA := Lib.hid hA
  clear hgr hct hal hl hA
  go_enter Tryd.func112, Tryd.ntmps112
  go_wp2_with fail
  go_loopw [3, 11] (fun m i wr => ∃ k : Nat, k ≤ L.length ∧ i = .int .i64 k ∧ m = .int .i64 ((catTo L k).length : Int) ∧ Ext w wr) (fun _ i _ => L.length - (intOf i).toNat)
  case atStart => exact ⟨0, Nat.zero_le _, rfl, rfl, Ext.refl _⟩
  case round =>
    obtain ⟨k, hk, rfl, rfl, hx0⟩ := hrel
    have hk1 := HCT.out k hk
    by_cases hlt : k < L.length
    · obtain ⟨b, off, e0, hbw, hc⟩ := (hR.mono hx0).cells_ hlt
      have c0 := hc k hlt
      subst e0
      have hl1 := HL.out k hlt
      have HS := Lib.hid (catTo_succ hlt)
      have g1 : ¬ (((catTo L k).length : Int) + ((lj L k).length : Int) < 0) := by omega
      clear hc
      go_wp2_with fail
      exact ⟨⟨k + 1, by omega, by go_num, by rw [HS.out, List.length_append]; go_num, hx0⟩, by simp [intOf]; omega⟩
    · have e : k = L.length := by omega
      subst e
      have hb : (catTo L L.length).length ≤ 1048576 := by omega
      go_wp2_with (go_at_call 113; refine (HGR.out _ hb _).mono ?_; rintro e w1 ⟨v0, rfl, ho1, hx1⟩)
      have HO1 := Lib.hid (ownsRow_base ho1 hx0.le)
      clear ho1
      go_loopw [6, 27] (fun v i wr => ∃ k : Nat, k ≤ L.length ∧ i = .int .i64 k ∧ Ext w wr ∧ wr.ownsRow w.heap.size 21 1 v (catTo L k).length ((catTo L k).map (Value.int .i32))) (fun _ i _ => L.length - (intOf i).toNat)
      case atStart => exact ⟨0, Nat.zero_le _, rfl, hx0.trans hx1, HO1.out⟩
      case round =>
        obtain ⟨k, hk, rfl, hx, hown⟩ := hrel
        have hk2 := HCT.out k hk
        by_cases hlt : k < L.length
        · obtain ⟨b, off, e0, hbw, hc⟩ := (hR.mono hx).cells_ hlt
          have c0 := hc k hlt
          subst e0
          have hl1 := HL.out k hlt
          have HS := Lib.hid (catTo_succ hlt)
          have HRA := Lib.hid ((HA.out k hlt).mono hx)
          clear hc
          go_wp2_with (at_builtin; go_loud (refine wpList_append_any _ rfl _ _ 75 rfl w.heap.size 21 i0 (.int .i32 0) 1 4 Tryd.underlying75 hi hz0 hz1 hz2 rfl (by decide) _ _ _ rfl hown (pp k) (lj L k).length (cc k) ((lj L k).map (Value.int .i32)) rfl (by rw [List.length_map, Nat.mul_one]) (runes_src HRA.out) (runes_one _) (by unfold maxLen; omega) (by omega) (by have := hx.le; omega) ?_); intro v' w4 hown4 hgrow)
          refine ⟨⟨k + 1, by omega, by go_num, Ext.append hx hown hgrow (Nat.le_refl _), ?_⟩, by simp [intOf]; omega⟩
          rw [HS.out, List.length_append, List.map_append]; exact hown4
        · have e : k = L.length := by omega
          subst e
          obtain ⟨rp, rc, rfl⟩ := ownsRow_slice hown
          go_wp2_with fail
          go_ret
          rw [HAL.out] at hown ⊢
          refine ⟨rp, rc, rfl, ownRunes_mk hown ?_ ?_, hx⟩
          · rw [← HAL.out]; omega
          · intro r hr
            obtain ⟨t, ht, hrt⟩ := List.mem_flatten.1 hr
            obtain ⟨j, hj, e⟩ := List.getElem_of_mem ht
            have := runesAt_all (HA.out j hj) r (by rw [lj_eq hj, e]; exact hrt)
            exact this
end Go.Proofs.YtkmfhcjdaglikaaDoor
