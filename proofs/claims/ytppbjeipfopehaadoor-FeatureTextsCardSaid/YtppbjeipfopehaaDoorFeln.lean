/- Contracts: the reference's Same; cognatelaw02.alike, twin. -/
import Derived.Test.YtppbjeipfopehaaDoorFelm
import Derived.Test.YtppbjeipfopehaaDoorLifc
import Derived.Deep.RegionLawGrows
namespace Go.Cg
open Go.RowKit

theorem cell_same {w w' : World} {b o : Nat} (h : w'.heap[b]? = w.heap[b]?) : w'.cell? ⟨b, o, none⟩ = w.cell? ⟨b, o, none⟩ := by simp [World.cell?, h]
/-- a row stays while another block is written -/
theorem Reads.turned {w w' : World} {p : Option Addr} {k g : Nat} {f : Nat → Value} (h : Reads w p k f) (hp : ∀ b off, p = some ⟨b, off, none⟩ → b ≠ g) (hs : w.heap.size ≤ w'.heap.size)
    (hb : ∀ j, j ≠ g → j < w.heap.size → w'.heap[j]? = w.heap[j]?) : Reads w' p k f := by
  rcases h with h | ⟨b, off, e, hlt, hc⟩
  · exact .inl h
  · exact .inr ⟨b, off, e, Nat.lt_of_lt_of_le hlt hs, fun j hj => (cell_same (hb b (hp b off e) hlt)).trans (hc j hj)⟩

/-- nothing appended to no row, as one step of a region that draws -/
theorem step_append_none {P : Program} {ops : Array Oper} {o : Oper} {a : Act} {w : World} {K : Act → World → Prop} {Q : Exit → Act → World → Prop} {E : Prop}
    (hg : o.guard = none) (s x : Operand) (t : TypeId) (hop : o.op = Op.call { callee := Callee.builtin Builtin.append, args := #[s, x], argTypes := #[t, t] })
    (e : TypeId) (i : TypeInfo) (h1 : P.underlying t = some (.slice e)) (h2 : P.info? e = some i)
    (hs : a.eval s = .slice none 0 0) (sp : Option Addr) (c : Nat) (hx : a.eval x = .slice sp 0 c)
    (hK : K (a.put o.dst (.slice none 0 0)) w) :
    if Region.wanted o (yielded ops a.tmps) = true then Oper.wp P o a w K Q else E := by
  have hw : Region.wanted o (yielded ops a.tmps) = true := by simp [Region.wanted, hg]
  rw [if_pos hw]
  have hrun : (Builtin.append_ #[t, t] o.type #[.slice none 0 0, .slice sp 0 c]).run P w = .ok (.slice none 0 0) w := by
    cases sp with
    | none => simp [Builtin.append_, run_underlying h1, sizeOf, typeInfo, h2, Builtin.lenOf, Builtin.firstCells]
    | some b => simp [Builtin.append_, run_underlying h1, sizeOf, typeInfo, h2, Builtin.lenOf, Builtin.firstCells, loadCells, loadCellsFrom]
  unfold Oper.wp
  simp [execOp, hop, resolve, invoke, builtin, hs, hx, hrun, Result.andThen]
  exact hK
end Go.Cg
namespace Go.Proofs.YtppbjeipfopehaaDoor
open Go.RowKit Go.Cg Go.Shelf Go.Maps

set_option maxRecDepth 100000 in
set_option maxHeartbeats 1000000 in
theorem Same_any (ap bp : Option Addr) (ac bc : Nat) (l : List Int) (w : World) (ha : RunesAt w ap l) (hb : RunesAt w bp l) :
    Calls Tryd.prog 25 #[.slice ap l.length ac, .slice bp l.length bc] w fun e w' => e = .returned (.bool true) ∧ Ext w w' := by
  have hl := ha.big
  go_enter Tryd.func25, Tryd.ntmps25
  go_wp2_with fail
  go_loopw [5] (fun i wr => ∃ k : Nat, k ≤ l.length ∧ i = .int .i64 k ∧ Ext w wr) (fun i _ => l.length - (intOf i).toNat)
  case atStart => exact ⟨0, Nat.zero_le _, rfl, Ext.refl _⟩
  case round =>
    obtain ⟨k, hk, rfl, hx⟩ := hrel
    by_cases hlt : k < l.length
    · obtain ⟨b1, o1, rfl, hb1, c1⟩ := (ha.mono hx).cells hlt
      obtain ⟨b2, o2, rfl, hb2, c2⟩ := (hb.mono hx).cells hlt
      have hd : (rn l k != rn l k) = false := by simp
      go_wp2_with fail
      (refine wp_region_ext (by kernel_rfl) (by kernel_rfl) ?_; intro ι hι g hg; have q_c1 := hg.cell c1; have q_c2 := hg.cell c2; clear c1 c2; (repeat (go_big_quiet_step (fail))); refine wpQuiet_nil ?_; rintro w3 ⟨i2, rfl⟩; have hq := hg.ext i2; generalize g i2 = w3 at hq ⊢; clear q_c1 q_c2 i2 hg g hι ι)
      go_wp2_with fail
      exact ⟨⟨k + 1, by omega, by go_num, hx.trans hq⟩, by simp [intOf]; omega⟩
    · go_wp2_with fail
      go_ret
      exact ⟨rfl, hx⟩

set_option maxRecDepth 100000 in
set_option maxHeartbeats 2000000 in
theorem alike_any (fp lp gp mp : Option Addr) (fc lc gc mc : Nat) (A : Alpha) (w : World) (hA : AlphaAt w fp lp A) (hB : AlphaAt w gp mp A) :
    Calls Tryd.prog 27 #[.agg #[.slice fp A.feats.length fc, .slice lp A.lets.length lc], .agg #[.slice gp A.feats.length gc, .slice mp A.lets.length mc]] w fun e w' => e = .returned (.bool true) ∧ Ext w w' := by
  have hfb := hA.fbig
  have hlb := hA.lbig
  have hb0 : Ext (w.alloc (.cells #[.slice fp A.feats.length fc, .slice lp A.lets.length lc] 26)) ((w.alloc (.cells #[.slice fp A.feats.length fc, .slice lp A.lets.length lc] 26)).alloc (.cells #[.slice gp A.feats.length gc, .slice mp A.lets.length mc] 26)) := (Ext.refl _).alloc _
  have hk0 : Ext w ((w.alloc (.cells #[.slice fp A.feats.length fc, .slice lp A.lets.length lc] 26)).alloc (.cells #[.slice gp A.feats.length gc, .slice mp A.lets.length mc] 26)) := ((Ext.refl _).alloc _).alloc _
  have hy0 := Ext.refl ((w.alloc (.cells #[.slice fp A.feats.length fc, .slice lp A.lets.length lc] 26)).alloc (.cells #[.slice gp A.feats.length gc, .slice mp A.lets.length mc] 26))
  go_enter Tryd.func27, Tryd.ntmps27
  go_wp2_with fail
  go_loopw [5] (fun i wr => ∃ k : Nat, k ≤ A.feats.length ∧ i = .int .i64 k ∧ Ext ((w.alloc (.cells #[.slice fp A.feats.length fc, .slice lp A.lets.length lc] 26)).alloc (.cells #[.slice gp A.feats.length gc, .slice mp A.lets.length mc] 26)) wr) (fun i _ => A.feats.length - (intOf i).toNat)
  case atStart => exact ⟨0, Nat.zero_le _, rfl, hy0⟩
  case round =>
    obtain ⟨k, hk, rfl, hx⟩ := hrel
    have d0 := (hb0.trans hx).cell0 0
    have d1 := (hb0.trans hx).cell0 1
    have e0 := hx.cell0 0
    have e1 := hx.cell0 1
    rw [size_alloc] at e0 e1
    simp only [List.getElem?_toArray, List.getElem?_cons_zero, List.getElem?_cons_succ] at d0 d1 e0 e1
    by_cases hlt : k < A.feats.length
    · obtain ⟨b1, o1, rfl, hb1, c1⟩ := (hA.mono (hk0.trans hx)).fcells hlt
      obtain ⟨b2, o2, rfl, hb2, c2⟩ := (hB.mono (hk0.trans hx)).fcells hlt
      have hd : ((A.ft k).toList != (A.ft k).toList) = false := by simp
      go_wp2_with fail
      (refine wp_region_ext (by kernel_rfl) (by kernel_rfl) ?_; intro ι hι g hg; have q_d0 := hg.cell d0; have q_e0 := hg.cell e0; have q_c1 := hg.cell c1; have q_c2 := hg.cell c2; clear d0 e0 c1 c2; (repeat (go_big_quiet_step (fail))); refine wpQuiet_nil ?_; rintro w3 ⟨i2, rfl⟩; have hq := hg.ext i2; generalize g i2 = w3 at hq ⊢; clear q_d0 q_e0 q_c1 q_c2 i2 hg g hι ι)
      go_wp2_with fail
      exact ⟨⟨k + 1, by omega, by go_num, hx.trans hq⟩, by simp [intOf]; omega⟩
    · go_wp2_with fail
      go_loopw [6] (fun i wr => ∃ k : Nat, k ≤ A.lets.length ∧ i = .int .i64 k ∧ Ext ((w.alloc (.cells #[.slice fp A.feats.length fc, .slice lp A.lets.length lc] 26)).alloc (.cells #[.slice gp A.feats.length gc, .slice mp A.lets.length mc] 26)) wr) (fun i _ => A.lets.length - (intOf i).toNat)
      case atStart => exact ⟨0, Nat.zero_le _, rfl, hx⟩
      case round =>
        clear d0 d1 e0 e1 hx
        obtain ⟨j, hj, rfl, hx⟩ := hrel
        have d0 := (hb0.trans hx).cell0 0
        have d1 := (hb0.trans hx).cell0 1
        have e0 := hx.cell0 0
        have e1 := hx.cell0 1
        rw [size_alloc] at e0 e1
        simp only [List.getElem?_toArray, List.getElem?_cons_zero, List.getElem?_cons_succ] at d0 d1 e0 e1
        by_cases hltj : j < A.lets.length
        · obtain ⟨b1, o1, rfl, hb1, c1, c2, c3⟩ := (hA.mono (hk0.trans hx)).cells hltj
          obtain ⟨b2, o2, rfl, hb2, f1, f2, f3⟩ := (hB.mono (hk0.trans hx)).cells hltj
          go_wp2_with fail
          (refine wp_region_ext (by kernel_rfl) (by kernel_rfl) ?_; intro ι hι g hg; have q_d1 := hg.cell d1; have q_e1 := hg.cell e1; have q_c1 := hg.cell c1; have q_c2 := hg.cell c2; have q_c3 := hg.cell c3; have q_f1 := hg.cell f1; have q_f2 := hg.cell f2; have q_f3 := hg.cell f3; clear d1 e1 c1 c2 c3 f1 f2 f3; (repeat (go_big_quiet_step (fail))); refine wpQuiet_nil ?_; rintro w3 ⟨i2, rfl⟩; have hq := hg.ext i2; generalize g i2 = w3 at hq ⊢; clear q_d1 q_e1 q_c1 q_c2 q_c3 q_f1 q_f2 q_f3 i2 hg g hι ι)
          go_wp2_with fail
          exact ⟨⟨j + 1, by omega, by go_num, hx.trans hq⟩, by simp [intOf]; omega⟩
        · go_wp2_with fail
          go_ret
          exact ⟨rfl, hk0.trans hx⟩

theorem ownsRow_place {w : World} {B : Nat} {e : TypeId} {size n : Nat} {p : Option Addr} {c : Nat} {xs : List Value} (h : w.ownsRow B e size (.slice p n c) n xs) : ∀ b off, p = some ⟨b, off, none⟩ → B ≤ b := by
  intro b off e1
  rcases h.2 with ⟨hn, _⟩ | ⟨g, cap, cur, hv, hB, _⟩
  · simp only [Value.slice.injEq] at hn; rw [hn.1] at e1; cases e1
  · simp only [Value.slice.injEq] at hv
    rw [hv.1] at e1
    simp only [Option.some.injEq, Addr.mk.injEq] at e1
    omega
def featVals (A : Alpha) : List Value := (List.range A.feats.length).map fun j => .string (A.ft j)
def letVals (A : Alpha) : List Value := (List.range (A.lets.length * 3)).map A.letCell
theorem featVals_len (A : Alpha) : (featVals A).length = A.feats.length := by simp [featVals]
theorem letVals_len (A : Alpha) : (letVals A).length = A.lets.length * 3 := by simp [letVals]
theorem featVals_at (A : Alpha) {j : Nat} (h : j < A.feats.length) : (featVals A)[j]? = some (.string (A.ft j)) := by simp [featVals, h]
theorem letVals_at (A : Alpha) {j : Nat} (h : j < A.lets.length * 3) : (letVals A)[j]? = some (A.letCell j) := by simp [letVals, h]
theorem featVals_one (A : Alpha) : ∀ u ∈ featVals A, u.oneCell' = true := by
  intro u hu
  unfold featVals at hu
  obtain ⟨j, _, rfl⟩ := List.mem_map.1 hu
  rfl
theorem letVals_one (A : Alpha) : ∀ u ∈ letVals A, u.oneCell' = true := by
  intro u hu
  unfold letVals at hu
  obtain ⟨j, _, rfl⟩ := List.mem_map.1 hu
  unfold Alpha.letCell
  split
  · rfl
  · split <;> rfl
theorem two_set {w : World} {b : Nat} {a0 a1 v0 v1 : Value} {T : TypeId} (h : w.heap[b]? = some (.cells #[a0, a1] T (0, 0))) : ((w.setCell ⟨b, 0, none⟩ v0).setCell ⟨b, 1, none⟩ v1).heap[b]? = some (.cells #[v0, v1] T (0, 0)) := by
  have h1 := heap_setCell_same w b 0 _ _ v0 h
  exact heap_setCell_same _ b 1 _ _ v1 h1
theorem reads_two {w : World} {B : Nat} {v0 v1 : Value} {p : Option Addr} {k : Nat} {f : Nat → Value} (h : Reads w p k f) (hp : ∀ b off, p = some ⟨b, off, none⟩ → b ≠ B) : Reads ((w.setCell ⟨B, 0, none⟩ v0).setCell ⟨B, 1, none⟩ v1) p k f :=
  h.turned hp (by simp [World.setCell]) (fun j hj _ => by rw [heap_setCell_other _ _ _ _ (by exact hj), heap_setCell_other _ _ _ _ (by exact hj)])
theorem infoStr : (Tryd.prog.info? 9).map (fun i => (i.zero, i.size, i.bytes)) = some (some (.string ⟨#[]⟩), 1, 16) := by kernel_rfl
theorem infoLet : (Tryd.prog.info? 35).map (fun i => (i.zero, i.size, i.bytes)) = some (some (.agg #[.int .i32 0, .int .u32 0, .int .u32 0]), 3, 12) := by kernel_rfl

set_option maxRecDepth 100000 in
set_option maxHeartbeats 4000000 in
theorem twin_any (fp lp : Option Addr) (fc lc : Nat) (A : Alpha) (h12 : A.lets.length * 12 ≤ 140737488351232) (w : World) (hA : AlphaAt w fp lp A) :
    Calls Tryd.prog 14 #[.agg #[.slice fp A.feats.length fc, .slice lp A.lets.length lc]] w fun e w' => ∃ gp mp gc mc, e = .returned (.agg #[.slice gp A.feats.length gc, .slice mp A.lets.length mc]) ∧ AlphaAt w' gp mp A ∧ Ext w w' := by
  have hfb := hA.fbig
  obtain ⟨iS, hiS, hzS0, hzS1, hzS2⟩ := info_parts infoStr
  obtain ⟨iL, hiL, hzL0, hzL1, hzL2⟩ := info_parts infoLet
  have hw0 : Ext w ((w.alloc (.cells #[.slice fp A.feats.length fc, .slice lp A.lets.length lc] 26)).alloc (.cells #[.slice none 0 0, .slice none 0 0] 26)) := ((Ext.refl _).alloc _).alloc _
  have hb0 : Ext (w.alloc (.cells #[.slice fp A.feats.length fc, .slice lp A.lets.length lc] 26)) ((w.alloc (.cells #[.slice fp A.feats.length fc, .slice lp A.lets.length lc] 26)).alloc (.cells #[.slice none 0 0, .slice none 0 0] 26)) := (Ext.refl _).alloc _
  have hR0 : Ext ((w.alloc (.cells #[.slice fp A.feats.length fc, .slice lp A.lets.length lc] 26)).alloc (.cells #[.slice none 0 0, .slice none 0 0] 26)) ((w.alloc (.cells #[.slice fp A.feats.length fc, .slice lp A.lets.length lc] 26)).alloc (.cells #[.slice none 0 0, .slice none 0 0] 26)).drew := (Ext.refl _).drew
  have HB0 : ((w.alloc (.cells #[.slice fp A.feats.length fc, .slice lp A.lets.length lc] 26)).alloc (.cells #[.slice none 0 0, .slice none 0 0] 26)).heap[w.heap.size + 1]? = some (.cells #[.slice none 0 0, .slice none 0 0] 26 (0, 0)) := by
    have h := heap_alloc_new (w.alloc (.cells #[.slice fp A.feats.length fc, .slice lp A.lets.length lc] 26)) (.cells #[.slice none 0 0, .slice none 0 0] 26)
    rw [size_alloc] at h; exact h
  have HcF : ∀ b off, fp = some ⟨b, off, none⟩ → ∀ W, Ext w W → ∀ j u, (featVals A)[j]? = some u → W.cell? ((⟨b, off, none⟩ : Addr).add j) = some u := fun b off e W hW j u hu => by
    have hj : j < A.feats.length := by have := (List.getElem?_eq_some_iff.1 hu).1; rw [featVals_len] at this; exact this
    rw [featVals_at A hj] at hu
    obtain rfl := Option.some.inj hu
    have hh := hA.mono hW
    rw [e] at hh
    rw [add_off]; exact hh.fcell hj
  have HcL : ∀ b off, lp = some ⟨b, off, none⟩ → ∀ W, Ext w W → ∀ j u, (letVals A)[j]? = some u → W.cell? ((⟨b, off, none⟩ : Addr).add j) = some u := fun b off e W hW j u hu => by
    have hj : j < A.lets.length * 3 := by have := (List.getElem?_eq_some_iff.1 hu).1; rw [letVals_len] at this; exact this
    rw [letVals_at A hj] at hu
    obtain rfl := Option.some.inj hu
    have hh := (hA.mono hW).lets
    rw [e] at hh
    rw [add_off]; exact (hh.at_ hj).2
  have HcF := Lib.hid HcF
  have HcL := Lib.hid HcL
  -- what the rows give, behind all
  have FIN : ∀ (W : World) (gp mp : Option Addr) (v0 v1 : Value), Reads W gp A.feats.length (fun j => .string (A.ft j)) → Reads W mp (A.lets.length * 3) A.letCell → (∀ b off, gp = some ⟨b, off, none⟩ → b ≠ w.heap.size + 1) → (∀ b off, mp = some ⟨b, off, none⟩ → b ≠ w.heap.size + 1) →
      AlphaAt ((W.setCell ⟨w.heap.size + 1, 0, none⟩ v0).setCell ⟨w.heap.size + 1, 1, none⟩ v1) gp mp A := fun W gp mp v0 v1 h1 h2 h3 h4 => ⟨reads_two h1 h3, reads_two h2 h4, hA.fbig, hA.lbig, hA.wf, hA.fwf⟩
  have FIN := Lib.hid FIN
  rcases Nat.eq_zero_or_pos A.feats.length with hF0 | hF0
  · rcases Nat.eq_zero_or_pos A.lets.length with hL0 | hL0
    · have HF0 := Lib.hid hF0
      have HL0 := Lib.hid hL0
      clear hF0
      clear hL0
      go_enter Tryd.func14, Tryd.ntmps14
      go_wp2_with fail
      have hR := hR0
      have hB := hb0.trans hR
      have d0 := hB.cell0 0
      have d1 := hB.cell0 1
      have r0 := hR.cell0 0
      have r1 := hR.cell0 1
      rw [size_alloc] at r0 r1
      simp only [List.getElem?_toArray, List.getElem?_cons_zero, List.getElem?_cons_succ] at d0 d1 r0 r1
      go_region_law (first | (refine step_append_none rfl (.tmp 5) (.tmp 7) 23 rfl 9 iS Tryd.underlying23 hiS (by simp [Act.eval, Act.put]) fp fc (by simp [Act.eval, Act.put, HF0.out]) ?_) | (refine step_append_none rfl (.tmp 9) (.tmp 11) 24 rfl 35 iL Tryd.underlying24 hiL (by simp [Act.eval, Act.put]) lp lc (by simp [Act.eval, Act.put, HL0.out]) ?_))
      all_goals go_wp2_with fail
      all_goals (refine bodyPost_ret (results_cell_row rfl _ _ (w.heap.size + 1) 26 #[.slice none 0 0, .slice none 0 0] (0, 0) _ rfl HB0 Tryd.underlying26 rfl (by kernel_rfl)) rfl ⟨none, none, 0, 0, by rw [HF0.out, HL0.out], ⟨.inl HF0.out, .inl (by rw [HL0.out]), hA.fbig, hA.lbig, hA.wf, hA.fwf⟩, hw0.trans hR0⟩)
    · have HF0 := Lib.hid hF0
      obtain ⟨bL, oL, rfl, hbL⟩ := hA.lsome hL0
      clear hF0
      go_enter Tryd.func14, Tryd.ntmps14
      go_wp2_with fail
      have hR := hR0
      go_region_law (first | (refine step_append_none rfl (.tmp 5) (.tmp 7) 23 rfl 9 iS Tryd.underlying23 hiS (by simp [Act.eval, Act.put]) fp fc (by simp [Act.eval, Act.put, HF0.out]) ?_) | (refine step_append_grows rfl (.tmp 9) (.tmp 11) 24 rfl 35 iL (.agg #[.int .i32 0, .int .u32 0, .int .u32 0]) 3 12 Tryd.underlying24 hiL hzL0 hzL1 hzL2 rfl (by decide) none 0 0 [] (by simp [Act.eval, Act.put]) (fun _ => ⟨rfl, rfl⟩) rfl (fun _ h => by cases h) ⟨bL, oL, none⟩ A.lets.length lc (letVals A) (by simp [Act.eval, Act.put]) (letVals_len A) (HcL.out _ _ rfl _ (hw0.trans hR)) (letVals_one A) (by omega) (by unfold maxLen; omega) (by omega) ?_; intro v' w' hownL hgrow; have hlL := hR.le; simp only [Nat.zero_add, List.nil_append] at hownL; obtain ⟨pL, cL, rfl⟩ := ownsRow_slice hownL; (try (have hownF := ownsRow_ext hownF ((Ext.refl _).grown hgrow (by intro k h; cases h)))); have hR := hR.grown hgrow (by intro k h; cases h); have hB := hb0.trans hR; have d0 := hB.cell0 0; have d1 := hB.cell0 1; have r0 := hR.cell0 0; have r1 := hR.cell0 1; have y0 := hR.froz0 0; have y1 := hR.froz0 1; rw [size_alloc] at r0 r1 y0 y1; simp only [List.getElem?_toArray, List.getElem?_cons_zero, List.getElem?_cons_succ] at d0 d1 r0 r1))
      all_goals go_wp2_with fail
      all_goals (refine bodyPost_ret (results_cell_row rfl _ _ (w.heap.size + 1) 26 #[.slice none 0 0, .slice pL A.lets.length cL] (0, 0) _ rfl (two_set ((Below.block hR (w.heap.size + 1) (by simp)).trans HB0)) Tryd.underlying26 rfl (by kernel_rfl)) rfl ⟨_, _, _, _, (by rw [HF0.out]), FIN.out _ _ _ _ _ (.inl HF0.out) (ownsRow_reads hownL (f := A.letCell) (fun j hj => letVals_at A hj)) (fun b off e => by cases e) (fun b off e => by have := ownsRow_place hownL b off e; rw [size_alloc, size_alloc] at hlL; omega), ?_⟩; exact ((hw0.trans hR).setCell (p := ⟨w.heap.size + 1, 0, none⟩) (by simp) _).setCell (p := ⟨w.heap.size + 1, 1, none⟩) (by simp) _)
  · rcases Nat.eq_zero_or_pos A.lets.length with hL0 | hL0
    · obtain ⟨bF, oF, rfl, hbF⟩ := hA.fsome hF0
      have HL0 := Lib.hid hL0
      clear hL0
      go_enter Tryd.func14, Tryd.ntmps14
      go_wp2_with fail
      have hR := hR0
      go_region_law (first | (refine step_append_grows rfl (.tmp 5) (.tmp 7) 23 rfl 9 iS (.string ⟨#[]⟩) 1 16 Tryd.underlying23 hiS hzS0 hzS1 hzS2 rfl (by decide) none 0 0 [] (by simp [Act.eval, Act.put]) (fun _ => ⟨rfl, rfl⟩) rfl (fun _ h => by cases h) ⟨bF, oF, none⟩ A.feats.length fc (featVals A) (by simp [Act.eval, Act.put]) (by rw [featVals_len, Nat.mul_one]) (HcF.out _ _ rfl _ (hw0.trans hR)) (featVals_one A) (by omega) (by unfold maxLen; omega) (by omega) ?_; intro v' w' hownF hgrow; have hlF := hR.le; simp only [Nat.zero_add, List.nil_append] at hownF; obtain ⟨pF, cF, rfl⟩ := ownsRow_slice hownF; (try (have hownL := ownsRow_ext hownL ((Ext.refl _).grown hgrow (by intro k h; cases h)))); have hR := hR.grown hgrow (by intro k h; cases h); have hB := hb0.trans hR; have d0 := hB.cell0 0; have d1 := hB.cell0 1; have r0 := hR.cell0 0; have r1 := hR.cell0 1; have y0 := hR.froz0 0; have y1 := hR.froz0 1; rw [size_alloc] at r0 r1 y0 y1; simp only [List.getElem?_toArray, List.getElem?_cons_zero, List.getElem?_cons_succ] at d0 d1 r0 r1) | (refine step_append_none rfl (.tmp 9) (.tmp 11) 24 rfl 35 iL Tryd.underlying24 hiL (by simp [Act.eval, Act.put]) lp lc (by simp [Act.eval, Act.put, HL0.out]) ?_))
      all_goals go_wp2_with fail
      all_goals (refine bodyPost_ret (results_cell_row rfl _ _ (w.heap.size + 1) 26 #[.slice pF A.feats.length cF, .slice none 0 0] (0, 0) _ rfl (two_set ((Below.block hR (w.heap.size + 1) (by simp)).trans HB0)) Tryd.underlying26 rfl (by kernel_rfl)) rfl ⟨_, _, _, _, (by rw [HL0.out]), FIN.out _ _ _ _ _ (by have := ownsRow_reads hownF (f := fun j => .string (A.ft j)) (fun j hj => featVals_at A (by omega)); simpa using this) (.inl (by rw [HL0.out])) (fun b off e => by have := ownsRow_place hownF b off e; rw [size_alloc, size_alloc] at hlF; omega) (fun b off e => by cases e), ?_⟩; exact ((hw0.trans hR).setCell (p := ⟨w.heap.size + 1, 0, none⟩) (by simp) _).setCell (p := ⟨w.heap.size + 1, 1, none⟩) (by simp) _)
    · obtain ⟨bF, oF, rfl, hbF⟩ := hA.fsome hF0
      obtain ⟨bL, oL, rfl, hbL⟩ := hA.lsome hL0
      go_enter Tryd.func14, Tryd.ntmps14
      go_wp2_with fail
      have hR := hR0
      go_region_law (first | (refine step_append_grows rfl (.tmp 5) (.tmp 7) 23 rfl 9 iS (.string ⟨#[]⟩) 1 16 Tryd.underlying23 hiS hzS0 hzS1 hzS2 rfl (by decide) none 0 0 [] (by simp [Act.eval, Act.put]) (fun _ => ⟨rfl, rfl⟩) rfl (fun _ h => by cases h) ⟨bF, oF, none⟩ A.feats.length fc (featVals A) (by simp [Act.eval, Act.put]) (by rw [featVals_len, Nat.mul_one]) (HcF.out _ _ rfl _ (hw0.trans hR)) (featVals_one A) (by omega) (by unfold maxLen; omega) (by omega) ?_; intro v' w' hownF hgrow; have hlF := hR.le; simp only [Nat.zero_add, List.nil_append] at hownF; obtain ⟨pF, cF, rfl⟩ := ownsRow_slice hownF; (try (have hownL := ownsRow_ext hownL ((Ext.refl _).grown hgrow (by intro k h; cases h)))); have hR := hR.grown hgrow (by intro k h; cases h); have hB := hb0.trans hR; have d0 := hB.cell0 0; have d1 := hB.cell0 1; have r0 := hR.cell0 0; have r1 := hR.cell0 1; have y0 := hR.froz0 0; have y1 := hR.froz0 1; rw [size_alloc] at r0 r1 y0 y1; simp only [List.getElem?_toArray, List.getElem?_cons_zero, List.getElem?_cons_succ] at d0 d1 r0 r1) | (refine step_append_grows rfl (.tmp 9) (.tmp 11) 24 rfl 35 iL (.agg #[.int .i32 0, .int .u32 0, .int .u32 0]) 3 12 Tryd.underlying24 hiL hzL0 hzL1 hzL2 rfl (by decide) none 0 0 [] (by simp [Act.eval, Act.put]) (fun _ => ⟨rfl, rfl⟩) rfl (fun _ h => by cases h) ⟨bL, oL, none⟩ A.lets.length lc (letVals A) (by simp [Act.eval, Act.put]) (letVals_len A) (HcL.out _ _ rfl _ (hw0.trans hR)) (letVals_one A) (by omega) (by unfold maxLen; omega) (by omega) ?_; intro v' w' hownL hgrow; have hlL := hR.le; simp only [Nat.zero_add, List.nil_append] at hownL; obtain ⟨pL, cL, rfl⟩ := ownsRow_slice hownL; (try (have hownF := ownsRow_ext hownF ((Ext.refl _).grown hgrow (by intro k h; cases h)))); have hR := hR.grown hgrow (by intro k h; cases h); have hB := hb0.trans hR; have d0 := hB.cell0 0; have d1 := hB.cell0 1; have r0 := hR.cell0 0; have r1 := hR.cell0 1; have y0 := hR.froz0 0; have y1 := hR.froz0 1; rw [size_alloc] at r0 r1 y0 y1; simp only [List.getElem?_toArray, List.getElem?_cons_zero, List.getElem?_cons_succ] at d0 d1 r0 r1))
      all_goals go_wp2_with fail
      all_goals (refine bodyPost_ret (results_cell_row rfl _ _ (w.heap.size + 1) 26 #[.slice pF A.feats.length cF, .slice pL A.lets.length cL] (0, 0) _ rfl (two_set ((Below.block hR (w.heap.size + 1) (by simp)).trans HB0)) Tryd.underlying26 rfl (by kernel_rfl)) rfl ⟨_, _, _, _, rfl, FIN.out _ _ _ _ _ (by have := ownsRow_reads hownF (f := fun j => .string (A.ft j)) (fun j hj => featVals_at A (by omega)); simpa using this) (ownsRow_reads hownL (f := A.letCell) (fun j hj => letVals_at A hj)) (fun b off e => by have := ownsRow_place hownF b off e; rw [size_alloc, size_alloc] at hlF; omega) (fun b off e => by have := ownsRow_place hownL b off e; rw [size_alloc, size_alloc] at hlL; omega), ?_⟩; exact ((hw0.trans hR).setCell (p := ⟨w.heap.size + 1, 0, none⟩) (by simp) _).setCell (p := ⟨w.heap.size + 1, 1, none⟩) (by simp) _)
end Go.Proofs.YtppbjeipfopehaaDoor
